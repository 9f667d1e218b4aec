/- Texts of digits, as the reference reads them. Each theorem names its conditions. -/
import Derived.Test.YtndblondleclpaaDoorRdS
import Derived.Test.YtndblondleclpaaDoorDgT
import Derived.Test.YtndblondleclpaaDoorApp
namespace Go.Proofs.YtndblondleclpaaDoor
open Go.RowKit
set_option linter.unusedVariables false
set_option linter.unusedSimpArgs false


theorem spl_len {c : UInt8} : ∀ (n : Nat) (l : List UInt8), l.length ≤ n → ∀ q ∈ spl c l, q.length ≤ l.length := by
  intro n
  induction n with
  | zero =>
    intro l h q hq
    obtain rfl := List.eq_nil_of_length_eq_zero (Nat.le_zero.1 h)
    simp [spl] at hq; subst hq; simp
  | succ n ih =>
    intro l h q hq
    rcases spl_cases c l with ⟨h1, e⟩ | ⟨x, y, rfl, ha, e⟩
    · rw [e] at hq; simp at hq; subst hq; exact Nat.le_refl _
    · rw [e] at hq
      rcases List.mem_cons.1 hq with rfl | hq
      · simp
      · have := ih y (by simp at h; omega) q hq
        simp; omega
theorem spl_num (c : UInt8) : ∀ l : List UInt8, (spl c l).length ≤ l.length + 1
  | [] => by simp [spl]
  | b :: l => by
    have := spl_num c l
    have h2 := List.length_pos_iff.2 (spl_ne c l)
    rw [spl]
    split
    · simp; omega
    · simp; omega
/-- What both return. -/
noncomputable def rdgF (base : Int) (l : List UInt8) : Int × List Int × Bool := match rdgS base l with
  | some x => (x.1, x.2, true)
  | none => (0, [], false)
theorem rdgF_none {base : Int} {l : List UInt8} (h : rdgS base l = none) : rdgF base l = (0, [], false) := by unfold rdgF; rw [h]
theorem rdgF_some {base wh : Int} {l : List UInt8} {ds : List Int} (h : rdgS base l = some (wh, ds)) : rdgF base l = (wh, ds, true) := by unfold rdgF; rw [h]
def RdgP (base : Int) (l : List UInt8) (w : World) (e : Ending) (w' : World) : Prop :=
  ∃ a c, e = .returned (.tuple #[.int .i64 (rdgF base l).1, .slice a (rdgF base l).2.1.length c, .bool (rdgF base l).2.2]) ∧ Own w' w.heap.size (.slice a (rdgF base l).2.1.length c) (rdgF base l).2.1 ∧ Bl w w'
theorem rdg_bad {base : Int} {l : List UInt8} {w w' : World} (h : rdgS base l = none) (hb : Bl w w') : RdgP base l w (.returned (.tuple #[.int .i64 0, .slice none 0 0, .bool false])) w' := by
  unfold RdgP
  rw [rdgF_none h]
  exact ⟨none, 0, rfl, Own.nil _ _, hb⟩
theorem rdg_good {base wh : Int} {l : List UInt8} {ds : List Int} {a : Option Addr} {c : Nat} {w w' : World} (h : rdgS base l = some (wh, ds)) (ho : Own w' w.heap.size (.slice a ds.length c) ds) (hb : Bl w w') :
    RdgP base l w (.returned (.tuple #[.int .i64 wh, .slice a ds.length c, .bool true])) w' := by
  unfold RdgP
  rw [rdgF_some h]
  exact ⟨a, c, rfl, ho, hb⟩
/-- The reference's tests. -/
theorem rs_n1 {base : Int} {l : List UInt8} (h : inB base 2 36 = false) : rdgS base l = none := by
  cases e : rdgS base l with
  | none => rfl
  | some x => obtain ⟨y, z⟩ := x; have := (rdgS_iff.1 e).1.b; rw [inB_iff.2 this] at h; cases h
theorem rs_n2 {base : Int} {l : List UInt8} (h : rdec (spl 46 l).head! = none) : rdgS base l = none := by unfold rdgS; rw [h]
theorem rs_n3 {base : Int} {l : List UInt8} (h : ¬ (spl 46 l).length ≤ 2) : rdgS base l = none := by
  unfold rdgS
  cases rdec (spl 46 l).head! with
  | none => rfl
  | some wh => simp only; rw [if_neg (fun q => h q.2.1)]
theorem rs_n4 {base wh : Int} {l : List UInt8} (h : rdec (spl 46 l).head! = some wh) (h2 : inB wh (-1000000000) 1000000000 = false) : rdgS base l = none := by
  unfold rdgS; rw [h]; simp only; rw [if_neg (fun q => by rw [inB_iff.2 q.2.2] at h2; cases h2)]
theorem rs_one {base wh : Int} {l : List UInt8} (h : rdec (spl 46 l).head! = some wh) (h1 : inB base 2 36 = true) (h2 : inB wh (-1000000000) 1000000000 = true) (h3 : (spl 46 l).length = 1) : rdgS base l = some (wh, []) := by
  unfold rdgS; rw [h]; simp only; rw [if_pos ⟨inB_iff.1 h1, by omega, inB_iff.1 h2⟩, if_neg (by omega)]
theorem rs_two {base wh : Int} {l a b : List UInt8} (h : rdec a = some wh) (h1 : inB base 2 36 = true) (h2 : inB wh (-1000000000) 1000000000 = true) (h3 : spl 46 l = [a, b]) (hb : b ≠ []) (hd : digP base (b.map dval) = true) (hl : b.length ≤ 1000) :
    rdgS base l = some (wh, b.map dval) := by
  unfold rdgS; rw [h3]
  simp only [head1, h, List.length_cons, List.length_nil]
  rw [if_pos ⟨inB_iff.1 h1, by decide, inB_iff.1 h2⟩, if_pos (by decide), if_pos]
  · rfl
  · refine ⟨hb, fun c hc => ?_, hl⟩
    have := digP_mem hd (dval c) (List.mem_map.2 ⟨c, hc, rfl⟩)
    omega
theorem rs_two_no {base wh : Int} {l a b : List UInt8} (h : rdec a = some wh) (h1 : inB base 2 36 = true) (h2 : inB wh (-1000000000) 1000000000 = true) (h3 : spl 46 l = [a, b]) (hb : ¬ (b ≠ [] ∧ digP base (b.map dval) = true ∧ b.length ≤ 1000)) :
    rdgS base l = none := by
  unfold rdgS; rw [h3]
  simp only [head1, h, List.length_cons, List.length_nil]
  rw [if_pos ⟨inB_iff.1 h1, by decide, inB_iff.1 h2⟩, if_pos (by decide), if_neg]
  intro q
  refine hb ⟨q.1, ?_, q.2.2⟩
  unfold digP
  have : ((b.map dval).any fun x => !inB x 0 (base - 1)) = false := List.any_eq_false.2 fun x hx => by
    obtain ⟨c, hc, rfl⟩ := List.mem_map.1 hx
    have := q.2.1 c hc
    simp [inB_iff.2 (show 0 ≤ dval c ∧ dval c ≤ base - 1 by omega)]
  rw [this]; rfl

set_option maxHeartbeats 800000 in
theorem lsd_any (c : UInt8) (w : World) : Calls Tryd.prog 39 #[.int .u8 (c.toNat : Int)] w fun e w' => e = .returned (.int .i64 (dval c)) ∧ w = w' := by
  have hc := c.toNat_lt
  by_cases h1 : 48 ≤ c.toNat ∧ c.toNat ≤ 57
  · have HX := Lib.hid (show (c.toNat : Int) - 48 = dval c by rw [dval, if_pos h1])
    have H1 := Lib.hid h1
    obtain ⟨h2, h3⟩ := h1
    go_enter Tryd.func39, Tryd.ntmps39
    go_wp2_with fail
    refine (ldig_yes H1.out _).mono ?_
    rintro e w' ⟨rfl, rfl⟩
    go_wp2
    go_ret
    exact ⟨by rw [← HX.out]; rfl, rfl⟩
  · have H1 := Lib.hid h1
    by_cases h4 : 97 ≤ c.toNat ∧ c.toNat ≤ 122
    · have HX := Lib.hid (show (c.toNat : Int) - 97 + 10 = dval c by rw [dval, if_neg h1, if_pos h4])
      have H4 := Lib.hid h4
      obtain ⟨h2, h3⟩ := h4
      clear h1
      go_enter Tryd.func39, Tryd.ntmps39
      go_wp2_with fail
      refine (ldig_no H1.out _).mono ?_
      rintro e w' ⟨rfl, rfl⟩
      go_wp2_with fail
      refine (lsml_yes H4.out _).mono ?_
      rintro e w' ⟨rfl, rfl⟩
      go_wp2
      go_ret
      exact ⟨by rw [← HX.out]; rfl, rfl⟩
    · have HX := Lib.hid (show (-1 : Int) = dval c by rw [dval, if_neg h1, if_neg h4])
      have H4 := Lib.hid h4
      clear h1 h4
      go_enter Tryd.func39, Tryd.ntmps39
      go_wp2_with fail
      refine (ldig_no H1.out _).mono ?_
      rintro e w' ⟨rfl, rfl⟩
      go_wp2_with fail
      refine (lsml_no H4.out _).mono ?_
      rintro e w' ⟨rfl, rfl⟩
      go_wp2
      go_ret
      exact ⟨by rw [← HX.out]; rfl, rfl⟩

set_option maxRecDepth 100000 in
set_option maxHeartbeats 12800000 in
theorem spec_ReadDigits (base : Int) (s : ByteArray) (w : World) (hs : s.size ≤ 1048576) :
    Calls Tryd.prog 16 #[.int .i64 base, .string s] w (RdgP base s.data.toList w) := by
  obtain ⟨l, hl⟩ : ∃ l, s.data.toList = l := ⟨_, rfl⟩
  have hln : l.length ≤ 1048576 := by rw [← hl, ← Lib.size_eq s]; exact hs
  have HL := Lib.hid hl
  clear hl
  obtain ⟨x0, rs, hsp⟩ := spl_cons 46 l
  have hx0 : x0.length ≤ 1048576 := by have := spl_len (c := 46) _ l (Nat.le_refl _) x0 (by rw [hsp]; simp); omega
  have HSP := Lib.hid hsp
  have HX0 := Lib.hid (show (spl 46 l).head! = x0 by rw [hsp]; rfl)
  obtain ⟨n, hn⟩ : ∃ n, rs.length + 1 = n := ⟨_, rfl⟩
  have HN := Lib.hid (show (spl 46 l).length = n by rw [hsp, ← hn]; rfl)
  have hnb : n ≤ 9223372036854775807 := by
    have := spl_num 46 l
    rw [hsp, List.length_cons, hn] at this
    omega
  have hn0 : 0 < n := by omega
  clear hsp
  obtain ⟨X, hX⟩ : ∃ X : ByteArray, (⟨x0.toArray⟩ : ByteArray) = X := ⟨_, rfl⟩
  have HXD := Lib.hid (show X.data.toList = x0 by rw [← hX])
  have HXX := Lib.hid hX
  have HXS := Lib.hid (show X.size ≤ 2000000 by rw [Lib.size_eq X, HXD.out]; omega)
  clear hX hn
  obtain ⟨o, ho⟩ : ∃ o, rdec x0 = o := ⟨_, rfl⟩
  have HRD := Lib.hid (show rdec (spl 46 l).head! = o by rw [HX0.out]; exact ho)
  have HRX := Lib.hid (show rdec X.data.toList = o by rw [HXD.out]; exact ho)
  have HR0 := Lib.hid ho
  clear ho
  rw [HL.out]
  cases o with
  | none =>
    have HB := Lib.hid (rs_n2 (base := base) HRD.out)
    cases qb : inB base 2 36 with
    | false =>
      have QB := Lib.hid qb
      clear qb
      go_enter Tryd.func16, Tryd.ntmps16
      go_wp2_with fail
      have HSPL := lspl_any s 46 w (by omega)
      rw [HL.out, HN.out] at HSPL
      refine HSPL.mono ?_
      clear HSPL
      rintro e w1 ⟨g, c, rfl, ho, B1⟩
      have HO := Lib.hid ho
      have hc0 : w1.cell? ⟨g, 0, none⟩ = some (.string X) := by rw [← HXX.out]; exact HO.out.cell (cS_get (by rw [HSP.out]; rfl))
      clear ho
      go_wp2_with fail
      have HNUM := lnum_any X w1 HXS.out
      rw [HRX.out] at HNUM
      refine HNUM.mono ?_
      clear HNUM
      rintro e w2 ⟨rfl, B2'⟩
      have B2 := bl_call B1 B2'
      go_wp2_with fail
      refine (sbase_eq QB.out _).mono ?_
      rintro e w9 ⟨rfl, rfl⟩
      go_wp2
      refine bodyPost_ret (v := .tuple #[.int .i64 0, .slice none 0 0, .bool false]) (by simp only [results, Tryd.results16]; go_simp) rfl ?_
      exact rdg_bad HB.out (bl_alloc B2 _)
    | true =>
      have QB := Lib.hid qb
      clear qb
      go_enter Tryd.func16, Tryd.ntmps16
      go_wp2_with fail
      have HSPL := lspl_any s 46 w (by omega)
      rw [HL.out, HN.out] at HSPL
      refine HSPL.mono ?_
      clear HSPL
      rintro e w1 ⟨g, c, rfl, ho, B1⟩
      have HO := Lib.hid ho
      have hc0 : w1.cell? ⟨g, 0, none⟩ = some (.string X) := by rw [← HXX.out]; exact HO.out.cell (cS_get (by rw [HSP.out]; rfl))
      clear ho
      go_wp2_with fail
      have HNUM := lnum_any X w1 HXS.out
      rw [HRX.out] at HNUM
      refine HNUM.mono ?_
      clear HNUM
      rintro e w2 ⟨rfl, B2'⟩
      have B2 := bl_call B1 B2'
      go_wp2_with fail
      refine (sbase_eq QB.out _).mono ?_
      rintro e w9 ⟨rfl, rfl⟩
      go_wp2
      refine bodyPost_ret (v := .tuple #[.int .i64 0, .slice none 0 0, .bool false]) (by simp only [results, Tryd.results16]; go_simp) rfl ?_
      exact rdg_bad HB.out (bl_alloc B2 _)
  | some wh =>
    cases qb : inB base 2 36 with
    | false =>
      have HB := Lib.hid (rs_n1 (l := l) qb)
      have QB := Lib.hid qb
      clear qb
      go_enter Tryd.func16, Tryd.ntmps16
      go_wp2_with fail
      have HSPL := lspl_any s 46 w (by omega)
      rw [HL.out, HN.out] at HSPL
      refine HSPL.mono ?_
      clear HSPL
      rintro e w1 ⟨g, c, rfl, ho, B1⟩
      have HO := Lib.hid ho
      have hc0 : w1.cell? ⟨g, 0, none⟩ = some (.string X) := by rw [← HXX.out]; exact HO.out.cell (cS_get (by rw [HSP.out]; rfl))
      clear ho
      go_wp2_with fail
      have HNUM := lnum_any X w1 HXS.out
      rw [HRX.out] at HNUM
      refine HNUM.mono ?_
      clear HNUM
      rintro e w2 ⟨rfl, B2'⟩
      have B2 := bl_call B1 B2'
      go_wp2_with fail
      refine (sbase_eq QB.out _).mono ?_
      rintro e w9 ⟨rfl, rfl⟩
      go_wp2
      refine bodyPost_ret (v := .tuple #[.int .i64 0, .slice none 0 0, .bool false]) (by simp only [results, Tryd.results16]; go_simp) rfl ?_
      exact rdg_bad HB.out (bl_alloc B2 _)
    | true =>
      have QB := Lib.hid qb
      have hbb := inB_iff.1 qb
      clear qb
      by_cases hn2 : 2 < n
      · have HB := Lib.hid (rs_n3 (base := base) (l := l) (by rw [HN.out]; omega))
        have hn2' : (2 : Int) < (n : Int) := by omega
        go_enter Tryd.func16, Tryd.ntmps16
        go_wp2_with fail
        have HSPL := lspl_any s 46 w (by omega)
        rw [HL.out, HN.out] at HSPL
        refine HSPL.mono ?_
        clear HSPL
        rintro e w1 ⟨g, c, rfl, ho, B1⟩
        have HO := Lib.hid ho
        have hc0 : w1.cell? ⟨g, 0, none⟩ = some (.string X) := by rw [← HXX.out]; exact HO.out.cell (cS_get (by rw [HSP.out]; rfl))
        clear ho
        go_wp2_with fail
        have HNUM := lnum_any X w1 HXS.out
        rw [HRX.out] at HNUM
        refine HNUM.mono ?_
        clear HNUM
        rintro e w2 ⟨rfl, B2'⟩
        have B2 := bl_call B1 B2'
        go_wp2_with fail
        refine (sbase_eq QB.out _).mono ?_
        rintro e w9 ⟨rfl, rfl⟩
        go_wp2
        refine bodyPost_ret (v := .tuple #[.int .i64 0, .slice none 0 0, .bool false]) (by simp only [results, Tryd.results16]; go_simp) rfl ?_
        exact rdg_bad HB.out (bl_alloc B2 _)
      · have hn2' : ¬ (2 : Int) < (n : Int) := by omega
        cases qw : inB wh (-1000000000) 1000000000 with
        | false =>
          have HB := Lib.hid (rs_n4 (base := base) HRD.out qw)
          have QW := Lib.hid qw
          clear qw
          go_enter Tryd.func16, Tryd.ntmps16
          go_wp2_with fail
          have HSPL := lspl_any s 46 w (by omega)
          rw [HL.out, HN.out] at HSPL
          refine HSPL.mono ?_
          clear HSPL
          rintro e w1 ⟨g, c, rfl, ho, B1⟩
          have HO := Lib.hid ho
          have hc0 : w1.cell? ⟨g, 0, none⟩ = some (.string X) := by rw [← HXX.out]; exact HO.out.cell (cS_get (by rw [HSP.out]; rfl))
          clear ho
          go_wp2_with fail
          have HNUM := lnum_any X w1 HXS.out
          rw [HRX.out] at HNUM
          refine HNUM.mono ?_
          clear HNUM
          rintro e w2 ⟨rfl, B2'⟩
          have B2 := bl_call B1 B2'
          go_wp2_with fail
          refine (sbase_eq QB.out _).mono ?_
          rintro e w9 ⟨rfl, rfl⟩
          go_wp2_with fail
          refine (in_eq' QW.out _).mono ?_
          rintro e w9 ⟨rfl, rfl⟩
          go_wp2
          refine bodyPost_ret (v := .tuple #[.int .i64 0, .slice none 0 0, .bool false]) (by simp only [results, Tryd.results16]; go_simp) rfl ?_
          exact rdg_bad HB.out (bl_alloc B2 _)
        | true =>
          have QW := Lib.hid qw
          clear qw
          by_cases hn1 : n = 1
          · have HG := Lib.hid (rs_one HRD.out QB.out QW.out (by rw [HN.out]; exact hn1))
            subst hn1
            have HD0 := Lib.hid (show digP base [] = true by rfl)
            go_enter Tryd.func16, Tryd.ntmps16
            go_wp2_with fail
            have HSPL := lspl_any s 46 w (by omega)
            rw [HL.out, HN.out] at HSPL
            refine HSPL.mono ?_
            clear HSPL
            rintro e w1 ⟨g, c, rfl, ho, B1⟩
            have HO := Lib.hid ho
            have hc0 : w1.cell? ⟨g, 0, none⟩ = some (.string X) := by rw [← HXX.out]; exact HO.out.cell (cS_get (by rw [HSP.out]; rfl))
            clear ho
            go_wp2_with fail
            have HNUM := lnum_any X w1 HXS.out
            rw [HRX.out] at HNUM
            refine HNUM.mono ?_
            clear HNUM
            rintro e w2 ⟨rfl, B2'⟩
            have B2 := bl_call B1 B2'
            go_wp2_with fail
            refine (sbase_eq QB.out _).mono ?_
            rintro e w9 ⟨rfl, rfl⟩
            go_wp2_with fail
            refine (in_eq' QW.out _).mono ?_
            rintro e w9 ⟨rfl, rfl⟩
            go_wp2_with fail
            have HO3 := Lib.hid (own_made (B := w.heap.size) w2 B2.size)
            refine (sdig_eq HD0.out _ hbb HO3.out.sl (by simp)).mono ?_
            rintro e w3 ⟨rfl, B3⟩
            have BB := bl_call (bl_alloc B2 _) B3
            go_wp2
            refine bodyPost_ret (v := .tuple #[.int .i64 wh, .slice (some ⟨w2.heap.size, 0, none⟩) 0 0, .bool true]) (by simp only [results, Tryd.results16]; go_simp) rfl ?_
            exact rdg_good HG.out (ds := []) (HO3.out.below B3) BB
          · obtain rfl : n = 2 := by omega
            obtain ⟨y, hy⟩ : ∃ y, spl 46 l = [x0, y] := by
              have h1 := HSP.out
              have h2 := HN.out
              rw [h1] at h2 ⊢
              match rs, h2 with
              | [y], _ => exact ⟨y, rfl⟩
            have HY := Lib.hid hy
            have hyl : y.length ≤ 1048576 := by have := spl_len (c := 46) _ l (Nat.le_refl _) y (by rw [hy]; simp); omega
            obtain ⟨Y, hY⟩ : ∃ Y : ByteArray, (⟨y.toArray⟩ : ByteArray) = Y := ⟨_, rfl⟩
            have HYD := Lib.hid (show Y.data.toList = y by rw [← hY])
            have HYY := Lib.hid hY
            have hYs : Y.size ≤ 1048576 := by rw [Lib.size_eq Y, HYD.out]; exact hyl
            clear hy hY hn1 hn2
            go_enter Tryd.func16, Tryd.ntmps16
            go_wp2_with fail
            have HSPL := lspl_any s 46 w (by omega)
            rw [HL.out, HN.out] at HSPL
            refine HSPL.mono ?_
            clear HSPL
            rintro e w1 ⟨g, c, rfl, ho, B1⟩
            have HO := Lib.hid ho
            have hc0 : w1.cell? ⟨g, 0, none⟩ = some (.string X) := by rw [← HXX.out]; exact HO.out.cell (cS_get (by rw [HSP.out]; rfl))
            clear ho
            go_wp2_with fail
            have HNUM := lnum_any X w1 HXS.out
            rw [HRX.out] at HNUM
            refine HNUM.mono ?_
            clear HNUM
            rintro e w2 ⟨rfl, B2'⟩
            have B2 := bl_call B1 B2'
            go_wp2_with fail
            refine (sbase_eq QB.out _).mono ?_
            rintro e w9 ⟨rfl, rfl⟩
            go_wp2_with fail
            refine (in_eq' QW.out _).mono ?_
            rintro e w9 ⟨rfl, rfl⟩
            go_wp2_with fail
            have HO3 := Lib.hid (own_made (B := w2.heap.size) w2 (Nat.le_refl _))
            have B3 := bl_alloc (bl_refl w2) (.cells #[] 2)
            have hcy : w1.cell? ⟨g, 1, none⟩ = some (.string Y) := by rw [← HYY.out]; exact HO.out.cell (cS_get (by rw [HY.out]; rfl))
            have HC1 := Lib.hid (show ∀ w', Bl w2 w' → w'.cell? ⟨g, 1, none⟩ = some (.string Y) from fun w' hb => ((bl_call B2' hb).cell (p := ⟨g, 1, none⟩) (cell_lt hcy)).trans hcy)
            clear hc0 hcy
            generalize hg3 : w2.heap.size = g3 at HO3 ⊢
            rw [← hg3] at HO3
            have HG3 := Lib.hid hg3
            clear hg3
            generalize w2.alloc (.cells #[] 2) = w3 at *
            go_loopw [10, 11] (fun s10 s11 wr => ∃ (xs : List Int) (a : Option Addr) (c k : Nat), s10 = .slice a xs.length c ∧ s11 = .int .i64 k ∧ k ≤ Y.size ∧ Own wr w2.heap.size (.slice a xs.length c) xs ∧ Hid (xs = (y.take k).map dval ∧ xs.length = k) ∧ Bl w2 wr) (fun _ s11 _ => Y.size - (intOf s11).toNat)
            case atStart => exact ⟨[], _, 0, 0, rfl, rfl, Nat.zero_le _, by rw [← HG3.out]; exact HO3.out, Lib.hid ⟨by simp, rfl⟩, B3⟩
            case round =>
              rcases hrel with ⟨xs, a, c4, k, rfl, rfl, hk, ho, hx, Bq⟩
              have HO4 := Lib.hid ho
              have HX4 := Lib.hid hx.out
              have HLX := Lib.hid (show xs.length ≤ 1048576 by have := hx.out.2; omega)
              clear ho hx
              have hcy := HC1.out _ Bq
              rcases Nat.lt_or_ge k Y.size with hlt | hge
              · obtain ⟨ch, hch⟩ : ∃ ch, Y[k] = ch := ⟨_, rfl⟩
                have HCH := Lib.hid (show y[k]? = some ch by rw [← HYD.out, ← hch]; exact str_ix hlt)
                go_wp2_with fail
                refine (lsd_any ch _).mono ?_
                rintro e w9 ⟨rfl, rfl⟩
                have hdr := dval_ge ch
                go_wp2_with (at_builtin; refine wpList_append_one rfl _ _ rfl w2.heap.size _ xs (by rfl) HO4.out _ (by unfold R64; omega) (by rfl) (by have := HLX.out; omega) (Bq.size) ?_; intro v' wn ho hg _; have BN := bl_grownX Bq hg (fun k hk => (HO4.out.lt k hk).1); clear hg; obtain ⟨xs2, hxs2⟩ : ∃ q, q = xs ++ [dval ch] := ⟨_, rfl⟩; rw [← hxs2] at ho; have HXS2 := Lib.hid hxs2; clear hxs2; obtain ⟨a1, c5, rfl, _⟩ := ho.form)
                have HO5 := Lib.hid ho
                clear ho
                go_wp2
                go_roundw
                case rel => exact ⟨xs2, a1, c5, k + 1, rfl, by simp, by omega, HO5.out, Lib.hid ⟨by rw [HXS2.out, HX4.out.1, List.take_add_one, HCH.out]; simp, by rw [HXS2.out, List.length_append, HX4.out.2]; rfl⟩, BN⟩
                case measure => simp only [intOf, Int.toNat_natCast]; omega
              · obtain rfl : k = Y.size := by omega
                have hyn : y.length = Y.size := by rw [← HYD.out]; exact (Lib.size_eq Y).symm
                have HE := Lib.hid (show xs = y.map dval by rw [HX4.out.1, List.take_of_length_le (by rw [hyn]; exact Nat.le_refl _)])
                have HYN := Lib.hid hyn
                have HXN := Lib.hid HX4.out.2
                clear hge hk hyn
                have BW := bl_call B2 Bq
                by_cases hy0 : xs.length = 0
                · have hq0 : ((xs.length : Int) == 0) = true := beq_iff_eq.2 (by omega)
                  have HB := Lib.hid (rs_two_no HR0.out QB.out QW.out HY.out (fun q => q.1 (List.eq_nil_of_length_eq_zero (by rw [HYN.out, ← HXN.out]; exact hy0))))
                  clear hy0
                  go_wp2
                  refine bodyPost_ret (v := .tuple #[.int .i64 0, .slice none 0 0, .bool false]) (by simp only [results, Tryd.results16]; go_simp) rfl ?_
                  exact rdg_bad HB.out BW
                · have hq0 : ((xs.length : Int) == 0) = false := beq_eq_false_iff_ne.2 (by omega)
                  have HY0 := Lib.hid (show y ≠ [] from fun q => hy0 (by rw [HXN.out, ← HYN.out, q]; rfl))
                  clear hy0
                  cases qd : digP base xs with
                  | false =>
                    have HB := Lib.hid (rs_two_no HR0.out QB.out QW.out HY.out (fun q => by rw [← HE.out, qd] at q; exact absurd q.2.1 (by decide)))
                    have QD := Lib.hid qd
                    clear qd
                    go_wp2_with fail
                    refine (sdig_eq QD.out _ hbb HO4.out.sl HLX.out).mono ?_
                    rintro e w5 ⟨rfl, B5⟩
                    go_wp2
                    refine bodyPost_ret (v := .tuple #[.int .i64 0, .slice none 0 0, .bool false]) (by simp only [results, Tryd.results16]; go_simp) rfl ?_
                    exact rdg_bad HB.out (bl_call BW B5)
                  | true =>
                    have QD := Lib.hid qd
                    clear qd
                    by_cases hm : 1000 < xs.length
                    · have hm2 : (1000 : Int) < (xs.length : Int) := by omega
                      have HB := Lib.hid (rs_two_no HR0.out QB.out QW.out HY.out (fun q => by have := q.2.2; have := HYN.out; have := HXN.out; omega))
                      clear hm
                      go_wp2_with fail
                      refine (sdig_eq QD.out _ hbb HO4.out.sl HLX.out).mono ?_
                      rintro e w5 ⟨rfl, B5⟩
                      go_wp2
                      refine bodyPost_ret (v := .tuple #[.int .i64 0, .slice none 0 0, .bool false]) (by simp only [results, Tryd.results16]; go_simp) rfl ?_
                      exact rdg_bad HB.out (bl_call BW B5)
                    · have hm2 : ¬ (1000 : Int) < (xs.length : Int) := by omega
                      have HG := Lib.hid (rs_two HR0.out QB.out QW.out HY.out HY0.out (by rw [← HE.out]; exact QD.out) (by have := HYN.out; have := HXN.out; omega))
                      clear hm
                      go_wp2_with fail
                      refine (sdig_eq QD.out _ hbb HO4.out.sl HLX.out).mono ?_
                      rintro e w5 ⟨rfl, B5⟩
                      go_wp2
                      refine bodyPost_ret (v := .tuple #[.int .i64 wh, .slice a xs.length c4, .bool true]) (by simp only [results, Tryd.results16]; go_simp) rfl ?_
                      exact rdg_good (by rw [HE.out]; exact HG.out) ((HO4.out.below B5).mono B2.size) (bl_call BW B5)

end Go.Proofs.YtndblondleclpaaDoor
