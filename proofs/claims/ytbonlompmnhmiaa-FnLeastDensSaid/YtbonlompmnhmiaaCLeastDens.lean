/- FnLeastDens holds: the told fraction is near enough, and with lesser denominators none is. Conditions: none. -/
import Derived.Test.YtbonlompmnhmiaaOpenB
import Derived.Test.YtbonlompmnhmiaaDraw
import Derived.Test.YtbonlompmnhmiaaLdens
namespace Go.Proofs.Ytbonlompmnhmiaa
open Go.RowKit Go.ChangeShapes Go.WideShapes Go.ChangeAt
set_option linter.unusedVariables false
set_option linter.unusedSimpArgs false

set_option maxRecDepth 100000 in
set_option maxHeartbeats 3200000 in
theorem lawLeastDens (v0 : Value) (x0 : List Int) (v1 : Value) (x1 : List Int) (w : World) (S0 : SlB w v0 x0) (S1 : SlB w v1 x1) :
    Calls Try.prog 6 #[v0, v1] w fun e w' => e = .returned (.bool true) ∧ Bl w w' := by
  have H0 := Lib.hid S0
  have H1 := Lib.hid S1
  obtain ⟨a0, c0, rfl, _⟩ := S0.form
  obtain ⟨a1, c1, rfl, _⟩ := S1.form
  clear S0 S1
  by_cases hl : 3000 < x0.length ∨ 3000 < x1.length
  · have hL := Lib.hid (decide_eq_true hl)
    clear hl
    go_enter Try.func6, Try.ntmps6
    go_wp2_with fail
    refine (a2long_any H0.out H1.out).mono ?_
    rintro e w9 ⟨rfl, rfl⟩
    rw [hL.out]
    go_wp2
    go_ret
    exact ⟨rfl, bl_refl _⟩
  · have hL := Lib.hid (decide_eq_false hl)
    have hl0 : x0.length ≤ 3000 := by omega
    have hl1 : x1.length ≤ 3000 := by omega
    clear hl
    go_enter Try.func6, Try.ntmps6
    go_wp2_with fail
    refine (a2long_any H0.out H1.out).mono ?_
    rintro e w9 ⟨rfl, rfl⟩
    rw [hL.out]
    go_wp2_with fail
    refine (a2small_any H0.out hl0).mono ?_
    rintro e w1 ⟨n, d, rfl, hg, hd, hn, hb1⟩
    have B1 : Bl w w1 := bl_call (bl_refl _) hb1
    have hok : okF n d = true := ok_make hg (by omega) (by omega)
    have HOK := Lib.hid hok
    clear hg
    go_wp2_with fail
    have B2 : Bl w (w1.alloc (.cells #[.int .i64 (n), .int .i64 (d)] 26)) := (bl_alloc B1 _)
    have xF_2 : Bx (w1.alloc (.cells #[.int .i64 (n), .int .i64 (d)] 26)) (w1.heap.size) #[.int .i64 (n), .int .i64 (d)] := (Bx.new (b := w1.heap.size) _ #[.int .i64 (n), .int .i64 (d)] 26 (by first | rfl | simp))
    have zz2 : w1.heap.size + 1 ≤ (w1.alloc (.cells #[.int .i64 (n), .int .i64 (d)] 26)).heap.size := (by simp)
    generalize (w1.alloc (.cells #[.int .i64 (n), .int .i64 (d)] 26)) = w2 at *
    obtain ⟨cF_2, fF_2, zF_2⟩ := xF_2.out
    have H1c := Lib.hid (H1.out.below B2)
    refine (bytes_at H1c.out (by omega) 0 6 (by omega) (by omega)).mono ?_
    rintro e w9 ⟨num, rfl, hu0, hu1, rfl⟩
    go_wp2_with fail
    refine (bytes_at H1c.out (by omega) 1 256 (by omega) (by omega)).mono ?_
    rintro e w9 ⟨t, rfl, ht0, ht1, rfl⟩
    obtain ⟨den, hden⟩ : ∃ den, den = 1 + t * 10 := ⟨_, rfl⟩
    have HDEN := Lib.hid hden.symm
    have hdb : 1 ≤ den ∧ den ≤ 2551 := by omega
    clear hden
    obtain ⟨P, Q, u, q, L⟩ := ldens_of (num := num) (den := den) hok hn hd ⟨hu0, by omega⟩ hdb
    clear hok
    have HL := Lib.hid L.r
    have HPQ := Lib.hid L.ok
    have q1 := L.q1
    have q2 := L.q2
    have p1 := L.p1
    have p2 := L.p2
    have HN := Lib.hid L.near
    have HX := Lib.hid L.next
    clear L
    go_wp2_with fail
    rw [HDEN.out]
    refine (impl_LeastDenominator n d num den _).mono ?_
    rintro e w3 ⟨rfl, hb3⟩
    have B3 : Bl w w3 := bl_call B2 hb3
    have xF_3 : Bx w3 (w1.heap.size) #[.int .i64 (n), .int .i64 (d)] := xF_2.below hb3
    clear cF_2 fF_2 zF_2
    obtain ⟨cF_3, fF_3, zF_3⟩ := xF_3.out
    rw [HL.out]
    simp only []
    have b1 := mulbd (x := n) (y := Q) (X := 2000) (Y := 2000) (by omega) (by omega)
    have b2 := mulbd (x := P) (y := d) (X := 1000001) (Y := 2000) (by omega) (by omega)
    go_wp2_with fail
    refine (svalid_eq HPQ.out _).mono ?_
    rintro e w4 ⟨rfl, hb4⟩
    have B4 : Bl w w4 := bl_call (bl_alloc B3 _) hb4
    have xF_4 : Bx w4 (w1.heap.size) #[.int .i64 (n), .int .i64 (d)] := (xF_3.alloc _).below hb4
    have xG_4 : Bx w4 (w3.heap.size) #[.int .i64 (P), .int .i64 (Q)] := (Bx.new (b := w3.heap.size) _ #[.int .i64 (P), .int .i64 (Q)] 26 (by first | rfl | simp)).below hb4
    clear cF_3 fF_3 zF_3
    obtain ⟨cF_4, fF_4, zF_4⟩ := xF_4.out
    obtain ⟨cG_4, fG_4, zG_4⟩ := xG_4.out
    have hQ1 : Q = 1 ∨ Q ≠ 1 := by omega
    have ho1 : -2004002000 ≤ n * Q - P * d ∧ n * Q - P * d ≤ 2004002000 := by omega
    have b4 := mulbd (x := num) (y := d) (X := 5) (Y := 2000) (by omega) (by omega)
    have b5 := mulbd (x := num * d) (y := Q) (X := 10000) (Y := 2000) (by omega) (by omega)
    rcases Int.lt_or_le (n * Q - P * d) 0 with hs | hs
    rotate_left
    ·
      have hnear : (n * Q - P * d) * den ≤ num * d * Q := by have := HN.out; rw [ab_pos hs] at this; exact this
      have b3 := mulbd (x := n * Q - P * d) (y := den) (X := 2004002000) (Y := 2551) (by omega) (by omega)
      by_cases hQ : Q = 1
      ·
        have cQ : (Q == 1) = true := by simp [hQ]
        clear hQ
        go_wp2
        go_ret
        exact ⟨rfl, B4⟩
      ·
        have cQ : (Q == 1) = false := by simp [hQ]
        obtain ⟨nr, u1, u2, u3, u4, hfar⟩ := HX.out.resolve_left hQ
        have NR := Lib.hid nr
        have HFAR := Lib.hid hfar
        clear nr hfar hQ hQ1
        go_wp2_with fail
        refine (spec_NearestFraction n d (Q - 1) _).mono ?_
        rintro e w5 ⟨rfl, hb5⟩
        have B5 : Bl w w5 := bl_call B4 hb5
        have xF_5 : Bx w5 (w1.heap.size) #[.int .i64 (n), .int .i64 (d)] := xF_4.below hb5
        have xG_5 : Bx w5 (w3.heap.size) #[.int .i64 (P), .int .i64 (Q)] := xG_4.below hb5
        clear cF_4 fF_4 zF_4 cG_4 fG_4 zG_4
        obtain ⟨cF_5, fF_5, zF_5⟩ := xF_5.out
        obtain ⟨cG_5, fG_5, zG_5⟩ := xG_5.out
        rw [NR.out]
        simp only []
        have b6 := mulbd (x := n) (y := q) (X := 2000) (Y := 2000) (by omega) (by omega)
        have b7 := mulbd (x := u) (y := d) (X := 1000001) (Y := 2000) (by omega) (by omega)
        have b8 := mulbd (x := num * d) (y := q) (X := 10000) (Y := 2000) (by omega) (by omega)
        have ho2 : -2004002000 ≤ n * q - u * d ∧ n * q - u * d ≤ 2004002000 := by omega
        rcases Int.lt_or_le (n * q - u * d) 0 with hs2 | hs2
        rotate_left
        ·
          have hfar : num * d * q < (n * q - u * d) * den := by have := HFAR.out; rw [ab_pos hs2] at this; exact this
          have b9 := mulbd (x := n * q - u * d) (y := den) (X := 2004002000) (Y := 2551) (by omega) (by omega)
          have hw : wrap64 ((n * q - u * d) * den) = (n * q - u * d) * den := IntWalk.wrap64_in _ ⟨Int.le_trans (by decide) b9.1, Int.le_trans b9.2 (by decide)⟩
          go_wp2
          go_ret
          refine ⟨rfl, ?_⟩
          repeat first | (with_reducible exact B5) | (with_reducible refine bl_alloc ?_ _)
        ·
          have hfar : num * d * q < (-(n * q - u * d)) * den := by have := HFAR.out; rw [ab_neg (by omega)] at this; exact this
          have b9 := mulbd (x := -(n * q - u * d)) (y := den) (X := 2004002000) (Y := 2551) (by omega) (by omega)
          have hw : wrap64 ((-(n * q - u * d)) * den) = (-(n * q - u * d)) * den := IntWalk.wrap64_in _ ⟨Int.le_trans (by decide) b9.1, Int.le_trans b9.2 (by decide)⟩
          go_wp2
          go_ret
          refine ⟨rfl, ?_⟩
          repeat first | (with_reducible exact B5) | (with_reducible refine bl_alloc ?_ _)
    ·
      have hnear : (-(n * Q - P * d)) * den ≤ num * d * Q := by have := HN.out; rw [ab_neg (by omega)] at this; exact this
      have b3 := mulbd (x := -(n * Q - P * d)) (y := den) (X := 2004002000) (Y := 2551) (by omega) (by omega)
      by_cases hQ : Q = 1
      ·
        have cQ : (Q == 1) = true := by simp [hQ]
        clear hQ
        go_wp2
        go_ret
        exact ⟨rfl, B4⟩
      ·
        have cQ : (Q == 1) = false := by simp [hQ]
        obtain ⟨nr, u1, u2, u3, u4, hfar⟩ := HX.out.resolve_left hQ
        have NR := Lib.hid nr
        have HFAR := Lib.hid hfar
        clear nr hfar hQ hQ1
        go_wp2_with fail
        refine (spec_NearestFraction n d (Q - 1) _).mono ?_
        rintro e w5 ⟨rfl, hb5⟩
        have B5 : Bl w w5 := bl_call B4 hb5
        have xF_5 : Bx w5 (w1.heap.size) #[.int .i64 (n), .int .i64 (d)] := xF_4.below hb5
        have xG_5 : Bx w5 (w3.heap.size) #[.int .i64 (P), .int .i64 (Q)] := xG_4.below hb5
        clear cF_4 fF_4 zF_4 cG_4 fG_4 zG_4
        obtain ⟨cF_5, fF_5, zF_5⟩ := xF_5.out
        obtain ⟨cG_5, fG_5, zG_5⟩ := xG_5.out
        rw [NR.out]
        simp only []
        have b6 := mulbd (x := n) (y := q) (X := 2000) (Y := 2000) (by omega) (by omega)
        have b7 := mulbd (x := u) (y := d) (X := 1000001) (Y := 2000) (by omega) (by omega)
        have b8 := mulbd (x := num * d) (y := q) (X := 10000) (Y := 2000) (by omega) (by omega)
        have ho2 : -2004002000 ≤ n * q - u * d ∧ n * q - u * d ≤ 2004002000 := by omega
        rcases Int.lt_or_le (n * q - u * d) 0 with hs2 | hs2
        rotate_left
        ·
          have hfar : num * d * q < (n * q - u * d) * den := by have := HFAR.out; rw [ab_pos hs2] at this; exact this
          have b9 := mulbd (x := n * q - u * d) (y := den) (X := 2004002000) (Y := 2551) (by omega) (by omega)
          have hw : wrap64 ((n * q - u * d) * den) = (n * q - u * d) * den := IntWalk.wrap64_in _ ⟨Int.le_trans (by decide) b9.1, Int.le_trans b9.2 (by decide)⟩
          go_wp2
          go_ret
          refine ⟨rfl, ?_⟩
          repeat first | (with_reducible exact B5) | (with_reducible refine bl_alloc ?_ _)
        ·
          have hfar : num * d * q < (-(n * q - u * d)) * den := by have := HFAR.out; rw [ab_neg (by omega)] at this; exact this
          have b9 := mulbd (x := -(n * q - u * d)) (y := den) (X := 2004002000) (Y := 2551) (by omega) (by omega)
          have hw : wrap64 ((-(n * q - u * d)) * den) = (-(n * q - u * d)) * den := IntWalk.wrap64_in _ ⟨Int.le_trans (by decide) b9.1, Int.le_trans b9.2 (by decide)⟩
          go_wp2
          go_ret
          refine ⟨rfl, ?_⟩
          repeat first | (with_reducible exact B5) | (with_reducible refine bl_alloc ?_ _)

set_option maxRecDepth 100000 in
theorem fnLeastDens_lifted (os : Os) (started : os.Started) (H : Type) (enc : TypeId × Value → H) :
    ReturnsInHanded {} Try.checked os 6 .any (Rows.fnLeastDensSpec.pre6 enc Try.prog Try.f6 Rows.fnLeastDensRow.domain false) (Rows.fnLeastDensSpec.post enc Try.prog Try.f6 false true false false) := by
  refine returnsInHanded_of_change (C := Try.checked) own started (by kernel_rfl) Try.func6
    (ChangeSpec.witness6 (enc := enc) (C := Try.checked) false ⟨#[], #[.slice none 0 0, .slice none 0 0], []⟩ 8 (by kernel_rfl) (by kernel_rfl) (by kernel_rfl) (by kernel_rfl)) ?_
  intro W base args ds gs before hval0 hW hcnd _
  have hval : ∀ (j : Nat) t v, Try.f6.params[j]? = some t → args[j]? = some v → Value.okWide Try.prog W .any base t v := hval0
  have hW' := hW
  obtain ⟨p, q, hA0, hV, rfl, hfz, hnd⟩ := hW
  have hA : DataW.TrodAll enc Try.prog W 0 (fun _ => true) true Try.f6.params.toList args.toList ds p := hA0
  rw [Try.params6] at hA hval
  obtain ⟨v0, vs0, d0, ds0, p0, q0, hargs, rfl, rfl, h0, r0⟩ := trodAll_cons hA
  obtain ⟨v1, vs1, d1, ds1, p1, q1, rfl, rfl, rfl, h1, r1⟩ := trodAll_cons r0
  obtain ⟨rfl, rfl, rfl⟩ := trodAll_nil r1
  obtain rfl : args = #[v0, v1] := by cases args; simp_all
  obtain ⟨rfl, rfl⟩ := trodVars_none hV
  have k0 := h0
  have lt0 : ∀ x ∈ p0, x.block < W.heap.size := by obtain ⟨m, hm⟩ := k0; exact DataW.trod_lt m _ _ _ hm
  have k1 := h1
  have lt1 : ∀ x ∈ p1, x.block < W.heap.size := by obtain ⟨m, hm⟩ := k1; exact DataW.trod_lt m _ _ _ hm
  obtain ⟨x0, S0⟩ := bytes_of_trod (hval 0 40 v0 rfl rfl) h0
  obtain ⟨x1, S1⟩ := bytes_of_trod (hval 1 40 v1 rfl rfl) h1
  clear hA0 hval0
  refine (lawLeastDens v0 x0 v1 x1 W S0 S1).mono fun e W' ⟨he, bel⟩ => ?_
  subst he
  exact ⟨_, rfl, _, _, _, [], _, [], hW', trodAll_mk1 (shut_bool Try.underlying4 _), (trodAll_cons_mk (Below.trod laidOut (by kernel_rfl) (of_decide_eq_true (by kernel_rfl)) k0 bel lt0) (trodAll_cons_mk (Below.trod laidOut (by kernel_rfl) (of_decide_eq_true (by kernel_rfl)) k1 bel lt1) trodAll_mk0)), rfl, bel.frame _, fun h => by cases h⟩

/-- THE STATEMENT. -/
theorem fnLeastDens_holds : Rows.FnLeastDensSaid :=
  OpenClaim.holds_of_wide 6 Try.f6 rfl rfl rfl rfl rfl rfl rfl ⟨rfl, rfl, rfl, rfl, rfl⟩ rfl rfl rfl rfl rfl (by kernel_rfl) Try.func6 (by kernel_rfl)
    (of_decide_eq_true (by kernel_rfl)) (by unfold Func.isWrapper; first | (rw [if_pos (by decide +kernel)]; kernel_rfl) | (rw [if_neg (by decide +kernel)]; exact ⟨rfl, rfl⟩))
    (fun os started H enc _ => fnLeastDens_lifted os started H enc)
#print axioms fnLeastDens_holds

end Go.Proofs.Ytbonlompmnhmiaa
