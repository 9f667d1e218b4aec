/- Texts of digits, by the reference and by the program. Each theorem names its conditions. -/
import Derived.Test.YtndblondleclpaaDoorDgT
import Derived.Test.YtndblondleclpaaDoorShelf
import Derived.Lib.AppendIntMem
namespace Go.Proofs.YtndblondleclpaaDoor
open Go.RowKit
set_option linter.unusedVariables false
set_option linter.unusedSimpArgs false

/-- The library's table of powers of ten lies as its text says. -/
def Tab (w : World) : Prop := Lib.TabIs Tryd.prog w "internal/strconv.uint64pow10" .u64 Lib.pow10Tab
theorem Tab.below {w w' : World} (h : Tab w) (hb : Bl w w') : Tab w' := Lib.tabBelow_of_tabIs h w' hb

set_option maxHeartbeats 400000 in
theorem idec_any (n : Int) (hn : R64 n) (w : World) (ht : Tab w) :
    Calls Tryd.prog 31 #[.int .i64 n] w fun e w' => e = .returned (.string ⟨(Lib.itoa n).toArray⟩) ∧ Bl w w' := by
  go_enter Tryd.func31, Tryd.ntmps31
  go_wp2_with fail
  refine (Tryd.strconv_FormatInt_10 n hn.1 hn.2 w ht).mono ?_
  rintro e w' ⟨rfl, k, os, rfl⟩
  have B1 := Lib.below_grow w.heap.size w (Nat.le_refl _) k os
  generalize Sort.grow (w.drewN k) os = w1 at *
  go_wp2
  go_ret
  exact ⟨rfl, B1⟩

theorem dv_of {base whole : Int} {xs : List Int} (e1 : inB base 2 36 = true) (e2 : inB whole (-1000000000) 1000000000 = true) (e3 : digP base xs = true) (h : xs.length ≤ 1000) : DV base whole xs :=
  ⟨inB_iff.1 e1, inB_iff.1 e2, h, fun x hx => by have := digP_mem e3 x hx; omega⟩
theorem digP_of {base : Int} {xs : List Int} (h : ∀ x ∈ xs, 0 ≤ x ∧ x < base) : digP base xs = true := by
  unfold digP
  have : (xs.any fun x => !inB x 0 (base - 1)) = false := List.any_eq_false.2 fun x hx => by
    have := h x hx
    simp [inB_iff.2 (show 0 ≤ x ∧ x ≤ base - 1 by omega)]
  rw [this]; rfl
theorem dt_no1 {base whole : Int} {xs : List Int} (e : inB base 2 36 = false) : (⟨#[]⟩ : ByteArray) = ⟨(dtxt base whole xs).toArray⟩ := by
  rw [dtxt_no (fun v => by rw [inB_iff.2 v.b] at e; cases e)]
theorem dt_no2 {base whole : Int} {xs : List Int} (e : inB whole (-1000000000) 1000000000 = false) : (⟨#[]⟩ : ByteArray) = ⟨(dtxt base whole xs).toArray⟩ := by
  rw [dtxt_no (fun v => by rw [inB_iff.2 v.w] at e; cases e)]
theorem dt_no3 {base whole : Int} {xs : List Int} (e : digP base xs = false) : (⟨#[]⟩ : ByteArray) = ⟨(dtxt base whole xs).toArray⟩ := by
  rw [dtxt_no (fun v => by rw [digP_of v.d] at e; cases e)]
theorem dt_no4 {base whole : Int} {xs : List Int} (e : ¬ xs.length ≤ 1000) : (⟨#[]⟩ : ByteArray) = ⟨(dtxt base whole xs).toArray⟩ := by
  rw [dtxt_no (fun v => e v.l)]
theorem dt_yes {base whole : Int} {xs : List Int} (h : DV base whole xs) : (⟨(dtext whole xs).toArray⟩ : ByteArray) = ⟨(dtxt base whole xs).toArray⟩ := by rw [dtxt_yes h]

set_option maxRecDepth 100000 in
set_option maxHeartbeats 3200000 in
theorem spec_DigitsText (base whole : Int) (va : Value) (xs : List Int) (w : World) (ha : Sl w va xs) (hl : xs.length ≤ 1048576) :
    Calls Tryd.prog 7 #[.int .i64 base, .int .i64 whole, va] w fun e w' => e = .returned (.string ⟨(dtxt base whole xs).toArray⟩) ∧ Bl w w' := by
  obtain ⟨av, cv, rfl, hcv⟩ := ha.form'
  have HA := Lib.hid ha
  clear ha
  cases qb : inB base 2 36 with
  | false =>
    have HX := Lib.hid (dt_no1 (whole := whole) (xs := xs) qb)
    have E1 := Lib.hid qb
    clear qb
    go_enter Tryd.func7, Tryd.ntmps7
    go_wp2_with fail
    refine (sbase_eq E1.out _).mono ?_
    rintro e w9 ⟨rfl, rfl⟩
    go_wp2
    go_ret
    exact ⟨by rw [← HX.out]; rfl, by first | exact bl_refl _ | exact Bd⟩
  | true =>
    have E1 := Lib.hid qb
    have hbb := inB_iff.1 qb
    clear qb
    cases qd : digP base xs with
    | false =>
      have HX := Lib.hid (dt_no3 (whole := whole) qd)
      have E3 := Lib.hid qd
      clear qd
      go_enter Tryd.func7, Tryd.ntmps7
      go_wp2_with fail
      refine (sbase_eq E1.out _).mono ?_
      rintro e w9 ⟨rfl, rfl⟩
      go_wp2_with fail
      refine (sdig_eq E3.out _ hbb HA.out hl).mono ?_
      rintro e wd ⟨rfl, Bd⟩
      go_wp2
      go_ret
      exact ⟨by rw [← HX.out]; rfl, by first | exact bl_refl _ | exact Bd⟩
    | true =>
      have E3 := Lib.hid qd
      clear qd
      by_cases hlen : xs.length ≤ 1000
      · skip
        cases qw : inB whole (-1000000000) 1000000000 with
        | false =>
          have HX := Lib.hid (dt_no2 (base := base) (xs := xs) qw)
          have E2 := Lib.hid qw
          clear qw
          go_enter Tryd.func7, Tryd.ntmps7
          go_wp2_with fail
          refine (sbase_eq E1.out _).mono ?_
          rintro e w9 ⟨rfl, rfl⟩
          go_wp2_with fail
          refine (sdig_eq E3.out _ hbb HA.out hl).mono ?_
          rintro e wd ⟨rfl, Bd⟩
          go_wp2_with fail
          refine (in_eq' E2.out _).mono ?_
          rintro e w9 ⟨rfl, rfl⟩
          go_wp2
          go_ret
          exact ⟨by rw [← HX.out]; rfl, by first | exact bl_refl _ | exact Bd⟩
        | true =>
          have E2 := Lib.hid qw
          have hww := inB_iff.1 qw
          clear qw
          have HV := Lib.hid (dv_of E1.out E2.out E3.out hlen)
          go_enter Tryd.func7, Tryd.ntmps7
          go_wp2_with fail
          refine (sbase_eq E1.out _).mono ?_
          rintro e w9 ⟨rfl, rfl⟩
          go_wp2_with fail
          refine (sdig_eq E3.out _ hbb HA.out hl).mono ?_
          rintro e wd ⟨rfl, Bd⟩
          go_wp2_with fail
          refine (in_eq' E2.out _).mono ?_
          rintro e w9 ⟨rfl, rfl⟩
          go_wp2_with fail
          refine (ltext_any whole _ xs _ (by unfold R64; omega) (HA.out.below Bd) hlen (fun x hx => by have := HV.out.d x hx; omega)).mono ?_
          rintro e w2 ⟨rfl, B2⟩
          have HX := Lib.hid (dt_yes HV.out)
          go_wp2
          go_ret
          exact ⟨by rw [← HX.out]; rfl, bl_call Bd B2⟩
      · have HX := Lib.hid (dt_no4 (base := base) (whole := whole) hlen)
        go_enter Tryd.func7, Tryd.ntmps7
        go_wp2_with fail
        refine (sbase_eq E1.out _).mono ?_
        rintro e w9 ⟨rfl, rfl⟩
        go_wp2_with fail
        refine (sdig_eq E3.out _ hbb HA.out hl).mono ?_
        rintro e wd ⟨rfl, Bd⟩
        go_wp2
        go_ret
        exact ⟨by rw [← HX.out]; rfl, by first | exact bl_refl _ | exact Bd⟩

theorem mark_tab : ∀ d : Fin 36, (⟨#[48, 49, 50, 51, 52, 53, 54, 55, 56, 57, 97, 98, 99, 100, 101, 102, 103, 104, 105, 106, 107, 108, 109, 110, 111, 112, 113, 114, 115, 116, 117, 118, 119, 120, 121, 122]⟩ : ByteArray)[d.val]'(by have := d.isLt; simp [ByteArray.size]) = sgc (d.val : Int) := by decide
theorem mark_at {x : Int} (h0 : 0 ≤ x) (h1 : x < 36) (h : x.toNat < (⟨#[48, 49, 50, 51, 52, 53, 54, 55, 56, 57, 97, 98, 99, 100, 101, 102, 103, 104, 105, 106, 107, 108, 109, 110, 111, 112, 113, 114, 115, 116, 117, 118, 119, 120, 121, 122]⟩ : ByteArray).size) : (⟨#[48, 49, 50, 51, 52, 53, 54, 55, 56, 57, 97, 98, 99, 100, 101, 102, 103, 104, 105, 106, 107, 108, 109, 110, 111, 112, 113, 114, 115, 116, 117, 118, 119, 120, 121, 122]⟩ : ByteArray)[x.toNat]'h = sgc x := by
  have := mark_tab ⟨x.toNat, by omega⟩
  simp only at this
  rw [this, Int.toNat_of_nonneg h0]
/-- The characters that are written when k digits are. -/
def partB (xs : List Int) (k : Nat) : List UInt8 := (xs.take k).map sgc ++ List.replicate (xs.length - k) 0
theorem partB_len (xs : List Int) (k : Nat) (h : k ≤ xs.length) : (partB xs k).length = xs.length := by simp [partB]; omega
theorem partB_set (xs : List Int) (k : Nat) (x : Int) (h : xs[k]? = some x) : (partB xs k).set k (sgc x) = partB xs (k + 1) := by
  have hj := (List.getElem?_eq_some_iff.1 h).1
  have e : xs.length - k = (xs.length - (k + 1)) + 1 := by omega
  rw [partB, partB, List.set_append_right _ _ (by simp; omega), List.take_add_one, h, e, List.replicate_succ]
  simp [Nat.min_eq_left (Nat.le_of_lt hj)]
theorem partB_all (xs : List Int) : partB xs xs.length = xs.map sgc := by simp [partB]
theorem partB_zero (xs : List Int) : cB (partB xs 0) = List.replicate xs.length (.int .u8 0) := by simp [partB, cB]

set_option maxRecDepth 100000 in
set_option maxHeartbeats 3200000 in
theorem impl_DigitsText (base whole : Int) (va : Value) (xs : List Int) (w : World) (ha : Sl w va xs) (hl : xs.length ≤ 1048576) (ht : Tab w) :
    Calls Tryd.prog 9 #[.int .i64 base, .int .i64 whole, va] w fun e w' => e = .returned (.string ⟨(dtxt base whole xs).toArray⟩) ∧ Bl w w' := by
  have HT := Lib.hid ht
  clear ht
  obtain ⟨i0, hi, hz0, hz1, hz2⟩ := info_partsB info_u8
  obtain ⟨av, cv, rfl, hcv⟩ := ha.form'
  have HA := Lib.hid ha
  clear ha
  cases qb : inB base 2 36 with
  | false =>
    have HX := Lib.hid (dt_no1 (whole := whole) (xs := xs) qb)
    have E1 := Lib.hid qb
    clear qb
    go_enter Tryd.func9, Tryd.ntmps9
    go_wp2_with fail
    refine (ibase_eq E1.out _).mono ?_
    rintro e w9 ⟨rfl, rfl⟩
    go_wp2
    go_ret
    exact ⟨by rw [← HX.out]; rfl, by first | exact bl_refl _ | exact Bd⟩
  | true =>
    have E1 := Lib.hid qb
    have hbb := inB_iff.1 qb
    clear qb
    cases qw : inB whole (-1000000000) 1000000000 with
    | false =>
      have HX := Lib.hid (dt_no2 (base := base) (xs := xs) qw)
      have E2 := Lib.hid qw
      clear qw
      go_enter Tryd.func9, Tryd.ntmps9
      go_wp2_with fail
      refine (ibase_eq E1.out _).mono ?_
      rintro e w9 ⟨rfl, rfl⟩
      go_wp2_with fail
      refine (inB_eq E2.out _).mono ?_
      rintro e w9 ⟨rfl, rfl⟩
      go_wp2
      go_ret
      exact ⟨by rw [← HX.out]; rfl, by first | exact bl_refl _ | exact Bd⟩
    | true =>
      have E2 := Lib.hid qw
      have hww := inB_iff.1 qw
      clear qw
      cases qd : digP base xs with
      | false =>
        have HX := Lib.hid (dt_no3 (whole := whole) qd)
        have E3 := Lib.hid qd
        clear qd
        go_enter Tryd.func9, Tryd.ntmps9
        go_wp2_with fail
        refine (ibase_eq E1.out _).mono ?_
        rintro e w9 ⟨rfl, rfl⟩
        go_wp2_with fail
        refine (inB_eq E2.out _).mono ?_
        rintro e w9 ⟨rfl, rfl⟩
        go_wp2_with fail
        refine (areD_eq E3.out _ hbb HA.out hl).mono ?_
        rintro e wd ⟨rfl, Bd⟩
        go_wp2
        go_ret
        exact ⟨by rw [← HX.out]; rfl, by first | exact bl_refl _ | exact Bd⟩
      | true =>
        have E3 := Lib.hid qd
        clear qd
        by_cases hlen : xs.length ≤ 1000
        · skip
          have HV := Lib.hid (dv_of E1.out E2.out E3.out hlen)
          go_enter Tryd.func9, Tryd.ntmps9
          go_wp2_with fail
          refine (ibase_eq E1.out _).mono ?_
          rintro e w9 ⟨rfl, rfl⟩
          go_wp2_with fail
          refine (inB_eq E2.out _).mono ?_
          rintro e w9 ⟨rfl, rfl⟩
          go_wp2_with fail
          refine (areD_eq E3.out _ hbb HA.out hl).mono ?_
          rintro e wd ⟨rfl, Bd⟩
          go_wp2_with fail
          refine (idec_any whole (by unfold R64; omega) _ (HT.out.below Bd)).mono ?_
          rintro e w2 ⟨rfl, B2'⟩
          have B2 := bl_call Bd B2'
          clear B2'
          have hsz : (⟨(Lib.itoa whole).toArray⟩ : ByteArray).size ≤ 21 := by
            have := Lib.itoa_length_le whole (by omega) (by omega)
            simpa [ByteArray.size] using this
          obtain ⟨s, hs⟩ : ∃ s : ByteArray, s = ⟨(Lib.itoa whole).toArray⟩ := ⟨_, rfl⟩
          rw [← hs] at hsz ⊢
          have HS := Lib.hid hs
          clear hs
          by_cases h0 : xs.length = 0
          · have HX := Lib.hid (show s = ⟨(dtxt base whole xs).toArray⟩ by
              rw [dtxt_yes HV.out, HS.out, List.eq_nil_of_length_eq_zero h0]; simp [dtext])
            go_wp2
            go_ret
            exact ⟨by rw [← HX.out]; rfl, B2⟩
          · go_wp2_with (at_make; refine wpList_make_full _ rfl _ _ 49 rfl w.heap.size 5 i0 (.int .u8 0) 1 Tryd.underlying49 hi hz0 hz1 .i64 .i64 _ _ xs.length rfl rfl rfl rfl ?c1 ?c2 ?c3 ?_)
            case c1 => rw [hz2]; omega
            case c2 => unfold maxLen; omega
            case c3 => exact B2.size
            intro w3 hown3 hgrow3
            have B3 := bl_call B2 (below_of_grown hgrow3)
            clear hgrow3
            go_wp2
            have hgB : w.heap.size ≤ w2.heap.size := B2.size
            generalize w2.heap.size = g at *
            go_loopw [9, 10, 41] (fun _ _ s41 wr => ∃ j : Nat, j ≤ xs.length ∧ s41 = .int .i64 j ∧ wr.ownsRow w.heap.size 5 1 (.slice (some ⟨g, 0, none⟩) xs.length xs.length) xs.length (cB (partB xs j)) ∧ Bl w wr) (fun _ _ s41 _ => xs.length - (intOf s41).toNat)
            case atStart => exact ⟨0, Nat.zero_le _, rfl, by rw [partB_zero]; simpa [toList_madeCells_one] using hown3, B3⟩
            case round =>
              obtain ⟨j, hj, rfl, hO, hB⟩ := hrel
              by_cases hlt : j < xs.length
              · obtain ⟨b0, o0, rfl, hb0, x, hxk, hr, HC⟩ := HA.out.cellIn hlt
                have hxd := HV.out.d x (List.mem_of_getElem? hxk)
                have hcx := HC.out wr hB
                have hgl : g < wr.heap.size := (hO.lt g rfl).2
                have c1 : wr.cell? ⟨g, j, none⟩ = some (.int .u8 0) := by
                  rw [hO.cellAt j (by omega)]
                  have : (partB xs j)[j]? = some 0 := by
                    rw [partB, List.getElem?_append_right (by simp; omega)]
                    simp [Nat.min_eq_left (Nat.le_of_lt hlt), List.getElem?_replicate]
                    omega
                  exact cB_get this
                have c2 : wr.frozen? ⟨g, j, none⟩ = false := hO.frozenAt j
                have hS := (hO.stored j (.int .u8 ((sgc x).toNat : Int))).1
                have e : (cB (partB xs j)).set j (.int .u8 ((sgc x).toNat : Int)) = cB (partB xs (j + 1)) := by
                  rw [← partB_set xs j x hxk]; simp [cB, List.map_set]
                rw [e] at hS
                have HS1 := Lib.hid hS
                have HS2 := Lib.hid (hB.setCell (p := ⟨g, j, none⟩) hgB (.int .u8 ((sgc x).toNat : Int)))
                clear e hS hxk HC hown3
                go_wp2
                go_roundw
                case rel => exact ⟨j + 1, by omega, by simp, by rw [mark_at hxd.1 (by omega)]; exact HS1.out, by rw [mark_at hxd.1 (by omega)]; exact HS2.out⟩
                case measure => simp only [intOf]; omega
              · obtain rfl : j = xs.length := by omega
                have hO2 : OwB wr w.heap.size (.slice (some ⟨g, 0, none⟩) xs.length xs.length) (xs.map sgc) := by
                  rw [partB_all] at hO
                  exact owX_of_row (cB_one _) hO
                have hst := run_string_b hO2
                have HX := Lib.hid (show s ++ ⟨#[46]⟩ ++ ⟨(xs.map sgc).toArray⟩ = ⟨(dtxt base whole xs).toArray⟩ by
                  rw [dtxt_yes HV.out, HS.out, dtext, if_neg (fun q => h0 (by rw [q]; rfl))]
                  rw [str_app (Lib.itoa whole) [46], str_app]; simp)
                clear hO hO2 hown3
                have hsz2 : (⟨(xs.map sgc).toArray⟩ : ByteArray).size ≤ 1000 := by simpa [ByteArray.size] using hlen
                go_wp2
                go_ret
                exact ⟨by rw [← HX.out]; rfl, hB⟩
        · have HX := Lib.hid (dt_no4 (base := base) (whole := whole) hlen)
          go_enter Tryd.func9, Tryd.ntmps9
          go_wp2_with fail
          refine (ibase_eq E1.out _).mono ?_
          rintro e w9 ⟨rfl, rfl⟩
          go_wp2_with fail
          refine (inB_eq E2.out _).mono ?_
          rintro e w9 ⟨rfl, rfl⟩
          go_wp2_with fail
          refine (areD_eq E3.out _ hbb HA.out hl).mono ?_
          rintro e wd ⟨rfl, Bd⟩
          go_wp2
          go_ret
          exact ⟨by rw [← HX.out]; rfl, by first | exact bl_refl _ | exact Bd⟩

end Go.Proofs.YtndblondleclpaaDoor
