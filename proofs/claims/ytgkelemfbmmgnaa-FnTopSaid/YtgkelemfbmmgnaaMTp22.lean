/- Some of the texts of this claim, joined in one file: Db7, Db8. -/
import Derived.Test.YtgkelemfbmmgnaaMTp21
import Derived.Test.YtgkelemfbmmgnaaMTp16
import Derived.Test.YtgkelemfbmmgnaaMTp17
/- Functions of two numbers: the reference emits all that is known. Each theorem names its conditions. -/
namespace Go.Proofs.Ytgkelemfbmmgnaa
open Go.RowKit
set_option linter.unusedVariables false
set_option linter.unusedSimpArgs false


theorem okD_em {d : Db} {b : Bool} (h : bdD d = true) (he : enD d = b) : okD d = !b := by unfold okD; rw [h, he]; rfl
/-- What emission leaves in the reference's run. -/
def EmT (w : World) (p B : Nat) (ov : Value) (R : Option (Db × List Int × Bool)) (e : Ending) (w' : World) : Prop :=
  Upv w w' p ov ∧ e = .returned (.tuple #[]) ∧ match R with
    | none => ∃ (d1 : Db) (v1 : Value), Bx w' p #[.int .i64 d1.a, .int .i64 d1.b, .int .i64 d1.c, .int .i64 d1.d, .int .i64 d1.e, .int .i64 d1.f, .int .i64 d1.g, .int .i64 d1.h, v1, .bool false, .int .i64 5]
    | some (d', out', b) => ∃ v1 : Value, Bx w' p #[.int .i64 d'.a, .int .i64 d'.b, .int .i64 d'.c, .int .i64 d'.d, .int .i64 d'.e, .int .i64 d'.f, .int .i64 d'.g, .int .i64 d'.h, v1, .bool b, .int .i64 0] ∧ Own w' B v1 out' ∧ RowOf w ov v1
theorem emt_yes {w w' : World} {p B : Nat} {ov v1 : Value} {d1 : Db} {o1 : List Int} {b : Bool} {R : Option (Db × List Int × Bool)} (hR : R = some (d1, o1, b)) (hu : Upv w w' p ov) (hx : Bx w' p #[.int .i64 d1.a, .int .i64 d1.b, .int .i64 d1.c, .int .i64 d1.d, .int .i64 d1.e, .int .i64 d1.f, .int .i64 d1.g, .int .i64 d1.h, v1, .bool b, .int .i64 0]) (ho : Own w' B v1 o1) (hr : RowOf w ov v1) : EmT w p B ov R (.returned (.tuple #[])) w' := by
  subst hR
  exact ⟨hu, rfl, v1, hx, ho, hr⟩
theorem emt_no {w w' : World} {p B : Nat} {ov v1 : Value} {d1 : Db} {R : Option (Db × List Int × Bool)} (hR : R = none) (hu : Upv w w' p ov) (hx : Bx w' p #[.int .i64 d1.a, .int .i64 d1.b, .int .i64 d1.c, .int .i64 d1.d, .int .i64 d1.e, .int .i64 d1.f, .int .i64 d1.g, .int .i64 d1.h, v1, .bool false, .int .i64 5]) : EmT w p B ov R (.returned (.tuple #[])) w' := by
  subst hR
  exact ⟨hu, rfl, d1, v1, hx⟩

end Go.Proofs.Ytgkelemfbmmgnaa

/- The rest of a run of a function of two numbers, when one has ended. Each theorem names its conditions. -/
namespace Go.Proofs.Ytgkelemfbmmgnaa
open Go.RowKit
set_option linter.unusedVariables false
set_option linter.unusedSimpArgs false


theorem rest_none {s : St} {out ts : List Int} (h : emitF 1073741824 s out = none) : restF s out ts = ([], 5) := by rw [restF, h]
theorem rest_some {s s1 : St} {out o1 ts : List Int} (h : emitF 1073741824 s out = some (s1, o1)) : restF s out ts = runR (runG ts s1 o1) := by rw [restF, h]
/-- A list and a code, the list in a row of the call's own. -/
def FinP (R : List Int × Int) (w0 : World) (e : Ending) (w' : World) : Prop :=
  ∃ x n k, e = .returned (.tuple #[.slice x n k, .int .i64 R.2]) ∧ Own w' w0.heap.size (.slice x n k) R.1 ∧ Bl w0 w'
theorem finp_no {R : List Int × Int} {q : Int} {w0 w' : World} (h : R = ([], q)) (hb : Bl w0 w') : FinP R w0 (.returned (.tuple #[.slice none 0 0, .int .i64 q])) w' := by
  unfold FinP; rw [h]; exact ⟨none, 0, 0, rfl, Own.nil _ _, hb⟩
theorem finp_end {R : List Int × Int} {w0 w1 w' : World} {p : Nat} {ov : Value} {s : St} {out : List Int} {e : Ending} (h : R = endF s out) (hs : w0.heap.size ≤ w1.heap.size) (he : EndI w1 p ov s out e w') (hb : Bl w0 w') : FinP R w0 e w' := by
  unfold FinP; rw [h]
  obtain ⟨x, n, k, h1, h2, _⟩ := he
  exact ⟨x, n, k, h1, h2.mono hs, hb⟩
theorem finp_yes {R : List Int × Int} {l : List Int} {w0 w1 w' : World} {x : Option Addr} {n k : Nat} (h : R = (l, 0)) (hs : w0.heap.size ≤ w1.heap.size) (ho : Own w' w1.heap.size (.slice x n k) l) (hb : Bl w0 w') : FinP R w0 (.returned (.tuple #[.slice x n k, .int .i64 0])) w' := by
  unfold FinP; rw [h]
  exact ⟨x, n, k, rfl, ho.mono hs, hb⟩
theorem emitJ {s s' : St} {out out' : List Int} (hb : bdS s = true) (hj : EmJ s out) (h : emitF 1073741824 s out = some (s', out')) : bdS s' = true ∧ EmJ s' out' :=
  ⟨emit_bd (by omega) hj.len hb h, emit_pair (most := 1073741824) (by omega) EmJ (fun s out q h1 h2 h3 h4 => h4.em h1 h2 h3) hj.len hb hj h⟩
theorem mem_bd {ts : List Int} {i : Nat} {t : Int} (h : ∀ t ∈ ts, 1 ≤ t ∧ t ≤ 1000000000) (ht : ts[i]? = some t) : 1 ≤ t ∧ t ≤ 1000000000 := h t (List.mem_of_getElem? ht)

set_option maxRecDepth 100000 in
set_option maxHeartbeats 6400000 in
theorem ifin_any {w0 w : World} {s : St} {ov va : Value} {out ts : List Int} (hb0 : Bl w0 w) (ha : Sl w0 va ts) (ho : Own w w0.heap.size ov out) (hb : bdS s = true) (hj : EmJ s out) (hT : ∀ t ∈ ts, 1 ≤ t ∧ t ≤ 1000000000) (hlen : ts.length ≤ 1000000) :
    Calls Try.prog 93 #[.agg #[.int .i64 s.a, .int .i64 s.b, .int .i64 s.c, .int .i64 s.d], ov, va] w (FinP (restF s out ts) w0) := by
  have HA := Lib.hid ha
  have HO := Lib.hid ho
  have HB := Lib.hid hb
  have HJ := Lib.hid hj
  have HT := Lib.hid hT
  have HNE0 := Lib.hid (show ov.ownBlock ≠ some (w.heap.size + 1) from fun e => by have := (ho.lt _ e).2; omega)
  obtain ⟨av, cv, rfl, _⟩ := ha.form'
  obtain ⟨oa, oc, rfl, _⟩ := ho.form
  have h0s := hb0.size
  have hl0 := hj.len
  clear ha ho hb hj hT
  obtain ⟨RR, hRR⟩ : ∃ RR, restF s out ts = RR := ⟨_, rfl⟩
  rw [hRR]
  have HRR := Lib.hid hRR
  clear hRR
  go_enter Try.func93, Try.ntmps93
  go_wp2_with fail
  have B1 : Bl w ((w.alloc (.cells #[.int .i64 s.a, .int .i64 s.b, .int .i64 s.c, .int .i64 s.d] 117)).alloc (.cells #[.int .i64 s.a, .int .i64 s.b, .int .i64 s.c, .int .i64 s.d, .bool true, .slice oa out.length oc] 137)) := (bl_alloc (bl_alloc (bl_refl _) _) _)
  have xS_1 : Bx ((w.alloc (.cells #[.int .i64 s.a, .int .i64 s.b, .int .i64 s.c, .int .i64 s.d] 117)).alloc (.cells #[.int .i64 s.a, .int .i64 s.b, .int .i64 s.c, .int .i64 s.d, .bool true, .slice oa out.length oc] 137)) (w.heap.size) #[.int .i64 s.a, .int .i64 s.b, .int .i64 s.c, .int .i64 s.d] := ((Bx.new (b := w.heap.size) _ #[.int .i64 s.a, .int .i64 s.b, .int .i64 s.c, .int .i64 s.d] 117 (by first | rfl | simp)).alloc _)
  have xM_1 : Bx ((w.alloc (.cells #[.int .i64 s.a, .int .i64 s.b, .int .i64 s.c, .int .i64 s.d] 117)).alloc (.cells #[.int .i64 s.a, .int .i64 s.b, .int .i64 s.c, .int .i64 s.d, .bool true, .slice oa out.length oc] 137)) (w.heap.size + 1) #[.int .i64 s.a, .int .i64 s.b, .int .i64 s.c, .int .i64 s.d, .bool true, .slice oa out.length oc] := (Bx.new (b := w.heap.size + 1) _ #[.int .i64 s.a, .int .i64 s.b, .int .i64 s.c, .int .i64 s.d, .bool true, .slice oa out.length oc] 137 (by first | rfl | simp))
  have zz1 : w.heap.size + 2 ≤ ((w.alloc (.cells #[.int .i64 s.a, .int .i64 s.b, .int .i64 s.c, .int .i64 s.d] 117)).alloc (.cells #[.int .i64 s.a, .int .i64 s.b, .int .i64 s.c, .int .i64 s.d, .bool true, .slice oa out.length oc] 137)).heap.size := (by simp)
  generalize ((w.alloc (.cells #[.int .i64 s.a, .int .i64 s.b, .int .i64 s.c, .int .i64 s.d] 117)).alloc (.cells #[.int .i64 s.a, .int .i64 s.b, .int .i64 s.c, .int .i64 s.d, .bool true, .slice oa out.length oc] 137)) = w1 at *
  obtain ⟨cS_1, fS_1, zS_1⟩ := xS_1.out
  obtain ⟨cM_1, fM_1, zM_1⟩ := xM_1.out
  have HO1 := Lib.hid (HO.out.below B1)
  have B01 : Bl w0 w1 := bl_call hb0 B1
  have hsz := B1.size
  have h01 := B01.size
  clear cS_1 fS_1 zS_1 xS_1
  refine (iemit_any (lo := true) (most := 1073741824) xM_1 HO1.out h01 HNE0.out HB.out (.inl rfl) hl0 (by omega)).mono ?_
  rintro e w2 hE
  cases hem : emitF 1073741824 s out with
  | none =>
    have HR2 := Lib.hid (show RR = ([], 5) by rw [← HRR.out, rest_none hem])
    rw [hem] at hE
    clear hem
    obtain ⟨hU, rfl⟩ := hE
    have B02 : Bl w0 w2 := bl_upv B01 hU (by omega) (fun k hk => (HO1.out.lt k hk).1)
    clear cM_1 fM_1 zM_1
    go_wp2
    go_ret2
    exact finp_no HR2.out B02
  | some r =>
    obtain ⟨s0, o0⟩ := r
    have HJ0 := Lib.hid (emitJ HB.out HJ.out hem)
    obtain ⟨R, hR⟩ : ∃ R, runG ts s0 o0 = R := ⟨_, rfl⟩
    have HR := Lib.hid (show RR = runR R by rw [← HRR.out, rest_some hem, hR])
    have HG := Lib.hid hR
    clear hR
    rw [hem] at hE
    clear hem
    obtain ⟨hU, rfl, v2, x2, ho2, hr2⟩ := hE
    have B02 : Bl w0 w2 := bl_upv B01 hU (by omega) (fun k hk => (HO1.out.lt k hk).1)
    have HNE2 := Lib.hid (own_ne hr2 HNE0.out (by omega))
    clear cM_1 fM_1 zM_1
    have HO2 := Lib.hid ho2
    clear ho2 hr2
    go_wp2_with fail
    go_loopw [10, 18] (fun _ s21 wr => ∃ (n : Nat) (s1 : St) (o1 : List Int) (v1 : Value), s21 = .int .i64 n ∧ n ≤ ts.length ∧ Bx wr (w.heap.size + 1) #[.int .i64 s1.a, .int .i64 s1.b, .int .i64 s1.c, .int .i64 s1.d, .bool true, v1] ∧ Own wr w0.heap.size v1 o1 ∧ Hid (runG (ts.drop n) s1 o1 = R) ∧ Hid (bdS s1 = true) ∧ Hid (EmJ s1 o1) ∧ Hid (v1.ownBlock ≠ some (w.heap.size + 1)) ∧ Bl w0 wr) (fun _ s21 _ => ts.length - (intOf s21).toNat)
    case atStart => exact ⟨0, s0, o0, v2, rfl, Nat.zero_le _, x2, HO2.out, HG, Lib.hid HJ0.out.1, Lib.hid HJ0.out.2, HNE2, B02⟩
    case round =>
      obtain ⟨n, s1, o1, v1, rfl, hn, x1, h1, HE, HBB, HJ, HNE, Bq⟩ := hrel
      have HO := Lib.hid h1
      have hl1 := HJ.out.len
      obtain ⟨oa, oc, rfl, _⟩ := h1.form
      clear h1
      have hBs := Bq.size
      obtain ⟨c1, f1, z1⟩ := x1.out
      by_cases hnx : n < ts.length
      · have hnI : (n : Int) < (ts.length : Int) := by omega
        obtain ⟨tb, tof, rfl, t, ht, ct, _⟩ := HA.out.cellAt' Bq (k := n) hnx
        have htm := mem_bd HT.out ht
        have htb : -1000000000 ≤ t ∧ t ≤ 1000000000 := by omega
        have HT1 := Lib.hid ht
        have HT2 := Lib.hid htm.1
        clear ht htm
        go_wp2_with fail
        refine (ifed_any s1 t _ HBB.out htb).mono ?_
        rintro e w3 ⟨rfl, hb3⟩
        have x3 := x1.below hb3
        have HO3 := Lib.hid (HO.out.below hb3)
        have B3 : Bl w0 w3 := bl_call Bq hb3
        clear c1 f1 z1
        obtain ⟨c3, f3, z3⟩ := x3.out
        go_wp2_with fail
        refine (iset_any (s' := fedF s1 t) x3 (.inl rfl)).mono ?_
        rintro e w4 ⟨rfl, x4, hu4⟩
        have HO4 := Lib.hid (HO3.out.upd hu4 HNE.out)
        have B4 := bl_upd B3 hu4 (by omega)
        clear c3 f3 z3
        obtain ⟨c4, f4, z4⟩ := x4.out
        cases h6 : bdS (fedF s1 t) with
        | false =>
          have HE2 := Lib.hid (run_none HT1.out (show feedR s1 o1 t = none from feedR_no h6))
          clear h6
          go_wp2
          go_ret2
          exact finp_no (by rw [HR.out, ← HE.out, HE2.out]; rfl) B4
        | true =>
          have hfe := feedR_yes (out := o1) h6
          have H6 := Lib.hid h6
          clear h6
          go_wp2_with fail
          refine (iemit_any (s := fedF s1 t) (lo := true) (most := 1073741824) x4 HO4.out B4.size HNE.out H6.out (.inl rfl) hl1 (by omega)).mono ?_
          rintro e w5 hE
          cases hem : emitF 1073741824 (fedF s1 t) o1 with
          | none =>
            have HE2 := Lib.hid (run_none HT1.out (show feedR s1 o1 t = none from hfe.trans hem))
            rw [hem] at hE
            clear hem hfe
            obtain ⟨hU5, rfl⟩ := hE
            have B5 := bl_upv B4 hU5 (by omega) (fun k hk => (HO4.out.lt k hk).1)
            clear c4 f4 z4
            go_wp2
            go_ret2
            exact finp_no (by rw [HR.out, ← HE.out, HE2.out]; rfl) B5
          | some r =>
            obtain ⟨s2, o2⟩ := r
            have HIN := Lib.hid (feedR_inv (s := s1) (t := t) hl1 (hfe.trans hem))
            have HJ2 := Lib.hid (feedR_J (s := s1) (t := t) (hfe.trans hem) HJ.out (.inr HT2.out))
            have HE2 := Lib.hid (show runG (ts.drop (n + 1)) s2 o2 = R by rw [← run_some HT1.out (show feedR s1 o1 t = some (s2, o2) from hfe.trans hem)]; exact HE.out)
            rw [hem] at hE
            clear hem hfe
            obtain ⟨hU5, rfl, v2, x5, ho5, hr5⟩ := hE
            have B5 := bl_upv B4 hU5 (by omega) (fun k hk => (HO4.out.lt k hk).1)
            have HNE5 := Lib.hid (own_ne hr5 HNE.out z4)
            have HO5 := Lib.hid ho5
            clear c4 f4 z4 ho5 hr5
            go_wp2
            go_roundw
            case rel => exact ⟨n + 1, s2, o2, v2, by go_num, by omega, x5, HO5.out, HE2, Lib.hid HIN.out.1, HJ2, HNE5, B5⟩
            case measure => clear HE2; simp only [intOf, Int.toNat_natCast]; omega
      · have hnI : ¬ (n : Int) < (ts.length : Int) := by omega
        have HE2 := Lib.hid (run_end (s := s1) (out := o1) hnx)
        go_wp2_with fail
        refine (iend_any x1 HO.out hBs HNE.out HBB.out hl1 HJ.out.bds).mono ?_
        rintro e w5 hE
        have hE2 := hE
        obtain ⟨y, yn, yc, rfl, hy, hU⟩ := hE
        clear c1 f1 z1
        go_wp2
        go_ret2
        exact finp_end (by rw [HR.out, ← HE.out, HE2.out]; rfl) hBs hE2 (bl_upv Bq hU (by omega) (fun k hk => (HO.out.lt k hk).1))

end Go.Proofs.Ytgkelemfbmmgnaa

