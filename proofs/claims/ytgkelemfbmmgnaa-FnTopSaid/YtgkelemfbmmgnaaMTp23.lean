/- Some of the texts of this claim, joined in one file: Db9, DbI. -/
import Derived.Test.YtgkelemfbmmgnaaMTp22
import Derived.Deep.RegionLaw
import Derived.StillTailTactics
/- Functions of two numbers: the reference feeds a term. Each theorem names its conditions. -/
namespace Go.Proofs.Ytgkelemfbmmgnaa
open Go.RowKit
set_option linter.unusedVariables false
set_option linter.unusedSimpArgs false


theorem sl_cell {w w' : World} {b o n c k : Nat} {xs : List Int} (h : Sl w (.slice (some ⟨b, o, none⟩) n c) xs) (hb : Bl w w') (hk : k < xs.length) : ∃ t, xs[k]? = some t ∧ w'.cell? ⟨b, o + k, none⟩ = some (.int .i64 t) := by
  obtain ⟨b', o', e, t, ht, hc, _⟩ := h.cellAt' hb hk
  injection e with e; injection e with e1 e2; subst e1 e2
  exact ⟨t, ht, hc⟩
theorem sl_dropA {w : World} {b o n c k : Nat} {xs : List Int} (h : Sl w (.slice (some ⟨b, o, none⟩) n c) xs) (hk : k ≤ xs.length) : Sl w (.slice (some ⟨b, o + k, none⟩) (xs.length - k) (c - k)) (xs.drop k) := by
  obtain ⟨a', cap, e, h1, h2, h3, h4, h5⟩ := h
  simp only [Value.slice.injEq] at e
  obtain ⟨rfl, rfl, rfl⟩ := e
  refine ⟨some ⟨b, o + k, none⟩, c - k, by simp, by simp; omega, by unfold maxLen at *; omega, fun x hx => h3 x (List.mem_of_mem_drop hx), by simp, ?_⟩
  rcases h5 with h5 | ⟨b', off, e, hc⟩
  · subst h5; exact .inl (by simp)
  · simp only [Option.some.injEq, Addr.mk.injEq] at e
    obtain ⟨rfl, rfl, _⟩ := e
    refine .inr ⟨_, _, rfl, fun i x hx => ?_⟩
    rw [List.getElem?_drop] at hx
    have := hc (k + i) x hx
    rw [show o + k + i = o + (k + i) by omega]
    exact this
theorem sl_dropB {w : World} {b o n c k : Nat} {xs : List Int} (h : Sl w (.slice (some ⟨b, o, none⟩) n c) xs) (hk : k ≤ xs.length) (hc : c = k) : Sl w (.slice (some ⟨b, o, none⟩) (xs.length - k) 0) (xs.drop k) := by
  obtain ⟨a', cap, e, h1, h2, h3, h4, h5⟩ := h
  simp only [Value.slice.injEq] at e
  obtain ⟨rfl, rfl, rfl⟩ := e
  exact ⟨some ⟨b, o, none⟩, 0, by simp, by simp; omega, by unfold maxLen at *; omega, fun x hx => h3 x (List.mem_of_mem_drop hx), by simp, .inl (List.drop_eq_nil_iff.2 (by omega))⟩
theorem drop_bd {xs : List Int} {k : Nat} (h : termsP xs = true) (hk : 1 ≤ k) : ∀ t ∈ xs.drop k, 1 ≤ t ∧ t ≤ 1000000000 := fun t ht => by
  obtain ⟨j, hj⟩ := List.getElem?_of_mem ht
  rw [List.getElem?_drop] at hj
  have := inB_iff.1 ((termsP_iff.1 h).2 (k + j) t hj)
  unfold lowT at this
  rw [if_neg (by omega)] at this
  exact this
theorem bdS_leX {d : Db} (h : bdD d = true) : bdS (leX d) = true := by
  have h := bdD_iff.1 h
  exact bdS_iff.2 ⟨h.1, h.2.1, h.2.2.2.2.1, h.2.2.2.2.2.1⟩
theorem bdS_leY {d : Db} (h : bdD d = true) : bdS (leY d) = true := by
  have h := bdD_iff.1 h
  exact bdS_iff.2 ⟨h.1, h.2.2.1, h.2.2.2.2.1, h.2.2.2.2.2.2.1⟩
theorem okD_bd {d : Db} (h : okD d = true) : bdD d = true := by unfold okD at h; simp at h; exact h.1
theorem EmD.shb {d : Db} {out : List Int} (h : EmD d out) : ∀ x ∈ out, x ≤ 2000000000 := fun x hx => by have := h.leX.bds x hx; omega
theorem iokD_eq {d : Db} {b : Bool} (h : okD d = b) (w : World) : Calls Try.prog 98 #[.agg #[.int .i64 d.a, .int .i64 d.b, .int .i64 d.c, .int .i64 d.d, .int .i64 d.e, .int .i64 d.f, .int .i64 d.g, .int .i64 d.h]] w fun e w' => e = .returned (.bool b) ∧ Bl w w' := h ▸ iokD_any d w
theorem finp_is {R R' : List Int × Int} {w0 w' : World} {e : Ending} (h : R = R') (hf : FinP R' w0 e w') : FinP R w0 e w' := by rw [h]; exact hf

end Go.Proofs.Ytgkelemfbmmgnaa

/- A run of a function of two numbers: the program. Each theorem names its conditions. -/
namespace Go.Proofs.Ytgkelemfbmmgnaa
open Go.RowKit
set_option linter.unusedVariables false
set_option linter.unusedSimpArgs false


theorem Bx.cong {w : World} {b : Nat} {cs cs' : Array Value} (h : Bx w b cs) (e : cs = cs') : Bx w b cs' := e ▸ h
theorem sl_cellT {w w' : World} {b o n c k : Nat} {t : Int} {xs : List Int} (h : Sl w (.slice (some ⟨b, o, none⟩) n c) xs) (hb : Bl w w') (ht : xs[k]? = some t) : w'.cell? ⟨b, o + k, none⟩ = some (.int .i64 t) := by
  have hk : k < xs.length := (List.getElem?_eq_some_iff.1 ht).1
  obtain ⟨t', ht', hc⟩ := sl_cell h hb hk
  rw [ht] at ht'
  injection ht' with e
  rw [e]; exact hc

set_option maxRecDepth 100000 in
set_option maxHeartbeats 12800000 in
theorem irun_any {w : World} {d : Db} {vx vy : Value} {xs ys : List Int} (hx : Sl w vx xs) (hy : Sl w vy ys) (hb : bdD d = true) (hp : termsP xs = true) (hq : termsP ys = true) :
    Calls Try.prog 62 #[.agg #[.int .i64 d.a, .int .i64 d.b, .int .i64 d.c, .int .i64 d.d, .int .i64 d.e, .int .i64 d.f, .int .i64 d.g, .int .i64 d.h], vx, vy] w (FinP (runDF xs ys 0 d []) w) := by
  obtain ⟨ax, cx, rfl, hcx⟩ := hx.form'
  obtain ⟨ay, cy, rfl, hcy⟩ := hy.form'
  have hlx := (termsP_iff.1 hp).1
  have hly := (termsP_iff.1 hq).1
  obtain ⟨bx, ox, rfl, _⟩ := hx.cellAt' (bl_refl w) (k := 0) (by omega)
  obtain ⟨by', oy, rfl, _⟩ := hy.cellAt' (bl_refl w) (k := 0) (by omega)
  have HX := Lib.hid hx
  have HY := Lib.hid hy
  have HB := Lib.hid hb
  have HP := Lib.hid hp
  have HQ := Lib.hid hq
  clear hx hy hb hp hq
  obtain ⟨R, hR⟩ : ∃ R, runDF xs ys 0 d [] = R := ⟨_, rfl⟩
  rw [hR]
  have HR := Lib.hid hR
  clear hR
  go_enter Try.func62, Try.ntmps62
  go_wp2_with fail
  have B1 : Bl w (w.alloc (.cells #[.int .i64 d.a, .int .i64 d.b, .int .i64 d.c, .int .i64 d.d, .int .i64 d.e, .int .i64 d.f, .int .i64 d.g, .int .i64 d.h] 89)) := (bl_alloc (bl_refl _) _)
  have xS_1 : Bx (w.alloc (.cells #[.int .i64 d.a, .int .i64 d.b, .int .i64 d.c, .int .i64 d.d, .int .i64 d.e, .int .i64 d.f, .int .i64 d.g, .int .i64 d.h] 89)) (w.heap.size) #[.int .i64 d.a, .int .i64 d.b, .int .i64 d.c, .int .i64 d.d, .int .i64 d.e, .int .i64 d.f, .int .i64 d.g, .int .i64 d.h] := (Bx.new (b := w.heap.size) _ #[.int .i64 d.a, .int .i64 d.b, .int .i64 d.c, .int .i64 d.d, .int .i64 d.e, .int .i64 d.f, .int .i64 d.g, .int .i64 d.h] 89 (by first | rfl | simp))
  have zz1 : w.heap.size + 1 ≤ (w.alloc (.cells #[.int .i64 d.a, .int .i64 d.b, .int .i64 d.c, .int .i64 d.d, .int .i64 d.e, .int .i64 d.f, .int .i64 d.g, .int .i64 d.h] 89)).heap.size := (by simp)
  generalize (w.alloc (.cells #[.int .i64 d.a, .int .i64 d.b, .int .i64 d.c, .int .i64 d.d, .int .i64 d.e, .int .i64 d.f, .int .i64 d.g, .int .i64 d.h] 89)) = w1 at *
  obtain ⟨cS_1, fS_1, zS_1⟩ := xS_1.out
  clear cS_1 fS_1 zS_1
  go_loopw [8, 9] (fun s8 s9 wr => ∃ (i : Nat) (d1 : Db) (o1 : List Int) (v1 : Value), s8 = v1 ∧ s9 = .int .i64 i ∧ (i + 1) / 2 ≤ xs.length ∧ i / 2 ≤ ys.length ∧ Bx wr (w.heap.size) #[.int .i64 d1.a, .int .i64 d1.b, .int .i64 d1.c, .int .i64 d1.d, .int .i64 d1.e, .int .i64 d1.f, .int .i64 d1.g, .int .i64 d1.h] ∧ Own wr w.heap.size v1 o1 ∧ Hid (runDF xs ys i d1 o1 = R) ∧ Hid (bdD d1 = true) ∧ Hid (EmD d1 o1) ∧ Hid (i ≤ 1 → o1 = []) ∧ Hid (v1.ownBlock ≠ some w.heap.size) ∧ Bl w wr) (fun _ s9 _ => 2 * xs.length + 1 - (intOf s9).toNat)
  case atStart => exact ⟨0, d, [], _, rfl, rfl, by omega, by omega, xS_1, Own.nil _ _, HR, HB, Lib.hid (EmD.nil _), Lib.hid (fun _ => rfl), Lib.hid (by simp [Value.ownBlock]), B1⟩
  case round =>
    obtain ⟨i, d1, o1, v1, rfl, rfl, hi1, hi2, x1, h1, HR1, HBB, HJ, HI0, HNE, Br⟩ := hrel
    have HO := Lib.hid h1
    obtain ⟨oa, oc, rfl, _⟩ := h1.form
    clear h1
    have hBs := Br.size
    obtain ⟨c1, f1, z1⟩ := x1.out
    obtain ⟨k, hk⟩ : ∃ k : Nat, i = 2 * k ∨ i = 2 * k + 1 := ⟨i / 2, by omega⟩
    have hcast : (-9223372036854775808 : Int) ≤ (i : Int) ∧ (i : Int) ≤ 1000 := by omega
    rcases hk with hk | hk
    · have hq1 : (i : Int).tdiv 2 = (k : Int) := by rw [Int.tdiv_eq_ediv_of_nonneg (by omega)]; omega
      have hq2 : (i : Int) / 2 = (k : Int) := by omega
      have hr1 : (i : Int).tmod 2 = 0 := by rw [Int.tmod_eq_emod_of_nonneg (by omega)]; omega
      have hr2 : (i : Int) % 2 = 0 := by omega
      have HIK := Lib.hid hk
      have HI2 := Lib.hid (show i / 2 = k by omega)
      have HPY := Lib.hid (show i % 2 = 0 by omega)
      by_cases hkc : k < xs.length
      · have hkI : (k : Int) < (xs.length : Int) := by omega
        have ck : ((k : Int) == (xs.length : Int)) = false := by rw [beq_eq_false_iff_ne]; omega
        have hin1 : (i + 1 + 1) / 2 ≤ xs.length := by omega
        have hin2 : (i + 1) / 2 ≤ ys.length := by omega
        have hin3 : i ≤ 2 * xs.length := by omega
        have hin4 : k = 0 → i ≤ 1 := by omega
        clear hk
        obtain ⟨t, ht, ct⟩ := sl_cell HX.out Br hkc
        have HTK := Lib.hid ht
        have htb := termsP_bdT HP.out ht
        have HE := Lib.hid (show stepD xs ys i (fdX d1 t) o1 = R by rw [← HR1.out, rund_x hin3 (by rw [HPY.out]) (by rw [HI2.out]; exact ht)])
        have HJF := Lib.hid (HJ.out.fdX (term_low HP.out ht (fun q => HI0.out (hin4 q))))
        clear ht hin4
        go_upto_region 11 with fail
        go_still_tail 5, (by kernel_rfl)
        have x2 := x1.drew
        have HO2 := Lib.hid HO.out.drew
        have Br2 : Bl w wr.drew := bl_drew Br
        change wpList _ _ _ _ _ wr.drew
        generalize wr.drew = w2 at x2 HO2 Br2 ⊢
        go_wp2_with fail
        refine (ifdX_any d1 t _ HBB.out htb).mono ?_
        rintro e w3 ⟨rfl, hb3⟩
        have x3 := x2.below hb3
        have HO3 := Lib.hid (HO2.out.below hb3)
        have B3 : Bl w w3 := bl_call Br2 hb3
        clear c1 f1 ct
        obtain ⟨c3, f3, z3⟩ := x3.out
        have uS := (upd_set (upd_set (upd_set (upd_set (upd_set (upd_set (upd_set (upd_set (upd_refl w3 w.heap.size) 0 (.int .i64 (fdX d1 t).a)) 1 (.int .i64 (fdX d1 t).b)) 2 (.int .i64 (fdX d1 t).c)) 3 (.int .i64 (fdX d1 t).d)) 4 (.int .i64 (fdX d1 t).e)) 5 (.int .i64 (fdX d1 t).f)) 6 (.int .i64 (fdX d1 t).g)) 7 (.int .i64 (fdX d1 t).h))
        have xS := Bx.cong (((((((((x3.set 0 (.int .i64 (fdX d1 t).a)).set 1 (.int .i64 (fdX d1 t).b)).set 2 (.int .i64 (fdX d1 t).c)).set 3 (.int .i64 (fdX d1 t).d)).set 4 (.int .i64 (fdX d1 t).e)).set 5 (.int .i64 (fdX d1 t).f)).set 6 (.int .i64 (fdX d1 t).g)).set 7 (.int .i64 (fdX d1 t).h))) (show _ = #[.int .i64 (fdX d1 t).a, .int .i64 (fdX d1 t).b, .int .i64 (fdX d1 t).c, .int .i64 (fdX d1 t).d, .int .i64 (fdX d1 t).e, .int .i64 (fdX d1 t).f, .int .i64 (fdX d1 t).g, .int .i64 (fdX d1 t).h] by simp)
        have HO := Lib.hid (HO3.out.upd uS HNE.out)
        have BC := bl_upd B3 uS (Nat.le_refl _)
        clear uS HO3
        obtain ⟨cS, fS, zS⟩ := xS.out
        cases hok : okD (fdX d1 t) with
        | false =>
          have E1 := Lib.hid hok
          have HR2 := Lib.hid (show R = ([], 5) by rw [← HE.out, stepd_bad hok])
          clear hok
          go_wp2_with fail
          refine (iokD_eq E1.out _).mono ?_
          rintro e w5 ⟨rfl, hb5⟩
          go_wp2
          go_ret2
          exact finp_no HR2.out (bl_call BC hb5)
        | true =>
          have E1 := Lib.hid hok
          have HBF := Lib.hid (okD_bd hok)
          by_cases hi0 : i = 0
          · have ci : ((i : Int) == 0) = true := by simp; omega
            have HE2 := Lib.hid (show runDF xs ys (i + 1) (fdX d1 t) o1 = R by rw [← HE.out, stepd_0 hok hi0])
            clear hok
            go_wp2_with fail
            refine (iokD_eq E1.out _).mono ?_
            rintro e w5 ⟨rfl, hb5⟩
            go_wp2
            go_roundw
            case rel => exact ⟨i + 1, fdX d1 t, o1, _, rfl, by go_num, hin1, hin2, xS.below hb5, HO.out.below hb5, HE2, HBF, HJF, Lib.hid (fun q => HI0.out (by omega)), HNE, bl_call BC hb5⟩
            case measure => simp only [intOf, Int.toNat_natCast]; omega
          · have ci : ((i : Int) == 0) = false := by rw [beq_eq_false_iff_ne]; omega
            have hl1 := HJF.out.len
            cases hem : emitDF (fdX d1 t) o1 with
            | none =>
              have HR2 := Lib.hid (show R = ([], 5) by rw [← HE.out, stepd_none hok hi0 hem])
              have HEM := Lib.hid hem
              clear hok hem
              go_wp2_with fail
              refine (iokD_eq E1.out _).mono ?_
              rintro e w5 ⟨rfl, hb5⟩
              have x5 := xS.below hb5
              have B5 := bl_call BC hb5
              have h5s := B5.size
              have HO5 := Lib.hid (HO.out.below hb5)
              clear cS fS zS xS
              obtain ⟨c5, f5, z5⟩ := x5.out
              go_wp2_with fail
              have HH := iemA_any (d := fdX d1 t) HO5.out h5s HBF.out hl1
              refine HH.mono ?_
              clear HH
              rintro e w6 hE
              rw [HEM.out] at hE
              obtain ⟨hU, d2, v2, b2, rfl⟩ := hE
              have x6 : Bx w6 (w.heap.size) #[.int .i64 (fdX d1 t).a, .int .i64 (fdX d1 t).b, .int .i64 (fdX d1 t).c, .int .i64 (fdX d1 t).d, .int .i64 (fdX d1 t).e, .int .i64 (fdX d1 t).f, .int .i64 (fdX d1 t).g, .int .i64 (fdX d1 t).h] := x5.upv hU (by omega) HNE.out
              have B6 := bl_upv B5 hU h5s (fun k hk => (HO5.out.lt k hk).1)
              have h6s := B6.size
              clear c5 f5 z5
              obtain ⟨c6, f6, z6⟩ := x6.out
              go_wp2
              go_ret2
              refine finp_no HR2.out ?_
              repeat first | (with_reducible assumption) | (with_reducible exact bl_refl _) | (with_reducible refine bl_alloc ?_ _) | (with_reducible refine bl_set ?_ (by first | exact Nat.le_refl _ | (simp; done) | (simp; omega)) _)
            | some r =>
              obtain ⟨d2, o2, b2⟩ := r
              have HK := Lib.hid (emd_keeps (okD_bd hok) HJF.out hem)
              have HEM := Lib.hid hem
              have HOK := Lib.hid hok
              clear hok hem
              go_wp2_with fail
              refine (iokD_eq E1.out _).mono ?_
              rintro e w5 ⟨rfl, hb5⟩
              have x5 := xS.below hb5
              have B5 := bl_call BC hb5
              have h5s := B5.size
              have HO5 := Lib.hid (HO.out.below hb5)
              clear cS fS zS xS
              obtain ⟨c5, f5, z5⟩ := x5.out
              go_wp2_with fail
              have HH := iemA_any (d := fdX d1 t) HO5.out h5s HBF.out hl1
              refine HH.mono ?_
              clear HH
              rintro e w6 hE
              rw [HEM.out] at hE
              obtain ⟨hU, v2, rfl, ho2, hr2⟩ := hE
              have x6 : Bx w6 (w.heap.size) #[.int .i64 (fdX d1 t).a, .int .i64 (fdX d1 t).b, .int .i64 (fdX d1 t).c, .int .i64 (fdX d1 t).d, .int .i64 (fdX d1 t).e, .int .i64 (fdX d1 t).f, .int .i64 (fdX d1 t).g, .int .i64 (fdX d1 t).h] := x5.upv hU (by omega) HNE.out
              have B6 := bl_upv B5 hU h5s (fun k hk => (HO5.out.lt k hk).1)
              have h6s := B6.size
              have HNE2 := Lib.hid (own_ne hr2 HNE.out (by omega))
              obtain ⟨va, vc, rfl, _⟩ := ho2.form
              have HO2 := Lib.hid ho2
              clear c5 f5 z5 ho2 hr2
              obtain ⟨c6, f6, z6⟩ := x6.out
              have uW := (upd_set (upd_set (upd_set (upd_set (upd_set (upd_set (upd_set (upd_set (upd_refl w6 w.heap.size) 0 (.int .i64 d2.a)) 1 (.int .i64 d2.b)) 2 (.int .i64 d2.c)) 3 (.int .i64 d2.d)) 4 (.int .i64 d2.e)) 5 (.int .i64 d2.f)) 6 (.int .i64 d2.g)) 7 (.int .i64 d2.h))
              have xW := (Bx.cong (((((((((x6.set 0 (.int .i64 d2.a)).set 1 (.int .i64 d2.b)).set 2 (.int .i64 d2.c)).set 3 (.int .i64 d2.d)).set 4 (.int .i64 d2.e)).set 5 (.int .i64 d2.f)).set 6 (.int .i64 d2.g)).set 7 (.int .i64 d2.h))) (show _ = #[.int .i64 d2.a, .int .i64 d2.b, .int .i64 d2.c, .int .i64 d2.d, .int .i64 d2.e, .int .i64 d2.f, .int .i64 d2.g, .int .i64 d2.h] by simp)).alloc (.cells #[.int .i64 d2.a, .int .i64 d2.b, .int .i64 d2.c, .int .i64 d2.d, .int .i64 d2.e, .int .i64 d2.f, .int .i64 d2.g, .int .i64 d2.h] 89)
              have HOW := Lib.hid ((HO2.out.upd uW HNE2.out).alloc (.cells #[.int .i64 d2.a, .int .i64 d2.b, .int .i64 d2.c, .int .i64 d2.d, .int .i64 d2.e, .int .i64 d2.f, .int .i64 d2.g, .int .i64 d2.h] 89))
              have BW := bl_alloc (bl_upd B6 uW (Nat.le_refl _)) (.cells #[.int .i64 d2.a, .int .i64 d2.b, .int .i64 d2.c, .int .i64 d2.d, .int .i64 d2.e, .int .i64 d2.f, .int .i64 d2.g, .int .i64 d2.h] 89)
              cases b2 with
              | false =>
                have HE2 := Lib.hid (show runDF xs ys (i + 1) d2 o2 = R by rw [← HE.out, stepd_on HOK.out hi0 HEM.out])
                go_wp2
                go_roundw
                case rel => exact ⟨i + 1, d2, o2, _, rfl, by go_num, hin1, hin2, xW, HOW.out, HE2, Lib.hid HK.out.1, Lib.hid HK.out.2.1, Lib.hid (fun q => absurd q (by omega)), HNE2, BW⟩
                case measure => simp only [intOf, Int.toNat_natCast]; omega
              | true =>
                have HD := Lib.hid (HK.out.2.1.done (HK.out.2.2.1 rfl).1 (HK.out.2.2.1 rfl).2)
                have HR2 := Lib.hid (show R = (shortL o2, 0) by rw [← HE.out, stepd_done HOK.out hi0 HEM.out])
                have hl2 := HK.out.2.1.len
                have hWs := BW.size
                go_wp2_with fail
                refine (shortI_any _ o2 _ HOW.out.sl (by omega) HK.out.2.1.shb).mono ?_
                rintro e w7 ⟨a7, c7, rfl, ho7, hb7⟩
                have B7 := bl_call BW hb7
                have HO7 := Lib.hid ho7
                have H7 := Lib.hid hWs
                clear c6 f6 z6 ho7 hWs
                go_wp2_with fail
                refine (ivalT_eqN HD.out.1 _ HO7.out.sl (by rw [HD.out.2]; omega)).mono ?_
                rintro e w8 ⟨rfl, hb8⟩
                go_wp2
                go_ret2
                exact finp_yes HR2.out H7.out (HO7.out.below hb8) (bl_call B7 hb8)
      · have ck : ((k : Int) == (xs.length : Int)) = true := by simp; omega
        have HRR := Lib.hid (show R = restF (leX d1) o1 (ys.drop k) by rw [← HR1.out, rund_xend (by omega) (by omega) (by omega), show i / 2 = k by omega])
        have hkpos : 1 ≤ k := by omega
        clear hk
        have hmin : ¬ (ys.length : Int) < (k : Int) := by omega
        have hmin2 : (k : Int) ≤ (ys.length : Int) := by omega
        have hmin4 : ¬ ys.length < k := by omega
        have hmin5 : k ≤ ys.length := by omega
        have hmin3 : (0 : Int) ≤ (k : Int) := by omega
        have HDB := Lib.hid (drop_bd (k := k) HQ.out (by omega))
        have HLB := Lib.hid (show (ys.drop k).length ≤ 1000000 by rw [List.length_drop]; omega)
        by_cases hck : cy = k
        · have HD := Lib.hid (sl_dropB HY.out (k := k) (by omega) hck)
          have hck2 := hck
          go_upto_region 7 with fail
          go_region_law ((first | (go_simp; go_at_call 94; go_must (refine (ileX_any d1 _).mono ?_; rintro e w3 ⟨rfl, hb3⟩; have HO3 := Lib.hid (HO.out.drew.below hb3); have B3 : Bl w w3 := bl_call (bl_drew Br) hb3); go_wp2_with fail) | (go_simp; go_at_call 93; go_must (refine (ifin_any (w0 := w) (s := leX d1) B3 HD.out HO3.out (bdS_leX HBB.out) HJ.out.leX HDB.out HLB.out).mono ?_; rintro e w4 hF; have hF2 := finp_is HRR.out hF; obtain ⟨y, yn, yc, rfl, hy, hBy⟩ := hF); go_wp2_with fail)))
          all_goals (go_wp2; go_ret2; exact hF2)
        · have HD := Lib.hid (sl_dropA HY.out (k := k) (by omega))
          go_upto_region 7 with fail
          go_region_law ((first | (go_simp; go_at_call 94; go_must (refine (ileX_any d1 _).mono ?_; rintro e w3 ⟨rfl, hb3⟩; have HO3 := Lib.hid (HO.out.drew.below hb3); have B3 : Bl w w3 := bl_call (bl_drew Br) hb3); go_wp2_with fail) | (go_simp; go_at_call 93; go_must (refine (ifin_any (w0 := w) (s := leX d1) B3 HD.out HO3.out (bdS_leX HBB.out) HJ.out.leX HDB.out HLB.out).mono ?_; rintro e w4 hF; have hF2 := finp_is HRR.out hF; obtain ⟨y, yn, yc, rfl, hy, hBy⟩ := hF); go_wp2_with fail)))
          all_goals (go_wp2; go_ret2; exact hF2)
    · have hq1 : (i : Int).tdiv 2 = (k : Int) := by rw [Int.tdiv_eq_ediv_of_nonneg (by omega)]; omega
      have hq2 : (i : Int) / 2 = (k : Int) := by omega
      have hr1 : (i : Int).tmod 2 = 1 := by rw [Int.tmod_eq_emod_of_nonneg (by omega)]; omega
      have hr2 : (i : Int) % 2 = 1 := by omega
      have HIK := Lib.hid hk
      have HI2 := Lib.hid (show i / 2 = k by omega)
      have HPY := Lib.hid (show i % 2 = 1 by omega)
      by_cases hkc : k < ys.length
      · have hkI : (k : Int) < (ys.length : Int) := by omega
        have ck : ((k : Int) == (ys.length : Int)) = false := by rw [beq_eq_false_iff_ne]; omega
        have hin1 : (i + 1 + 1) / 2 ≤ xs.length := by omega
        have hin2 : (i + 1) / 2 ≤ ys.length := by omega
        have hin3 : i ≤ 2 * xs.length := by omega
        have hin4 : k = 0 → i ≤ 1 := by omega
        clear hk
        obtain ⟨t, ht, ct⟩ := sl_cell HY.out Br hkc
        have HTK := Lib.hid ht
        have htb := termsP_bdT HQ.out ht
        have HE := Lib.hid (show stepD xs ys i (fdY d1 t) o1 = R by rw [← HR1.out, rund_y hin3 (by rw [HPY.out]; simp) (by rw [HI2.out]; exact ht)])
        have HJF := Lib.hid (HJ.out.fdY (term_low HQ.out ht (fun q => HI0.out (hin4 q))))
        clear ht hin4
        go_upto_region 5 with fail
        go_still_tail 5, (by kernel_rfl)
        have x2 := x1.drew
        have HO2 := Lib.hid HO.out.drew
        have Br2 : Bl w wr.drew := bl_drew Br
        change wpList _ _ _ _ _ wr.drew
        generalize wr.drew = w2 at x2 HO2 Br2 ⊢
        go_wp2_with fail
        refine (ifdY_any d1 t _ HBB.out htb).mono ?_
        rintro e w3 ⟨rfl, hb3⟩
        have x3 := x2.below hb3
        have HO3 := Lib.hid (HO2.out.below hb3)
        have B3 : Bl w w3 := bl_call Br2 hb3
        clear c1 f1 ct
        obtain ⟨c3, f3, z3⟩ := x3.out
        have uS := (upd_set (upd_set (upd_set (upd_set (upd_set (upd_set (upd_set (upd_set (upd_refl w3 w.heap.size) 0 (.int .i64 (fdY d1 t).a)) 1 (.int .i64 (fdY d1 t).b)) 2 (.int .i64 (fdY d1 t).c)) 3 (.int .i64 (fdY d1 t).d)) 4 (.int .i64 (fdY d1 t).e)) 5 (.int .i64 (fdY d1 t).f)) 6 (.int .i64 (fdY d1 t).g)) 7 (.int .i64 (fdY d1 t).h))
        have xS := Bx.cong (((((((((x3.set 0 (.int .i64 (fdY d1 t).a)).set 1 (.int .i64 (fdY d1 t).b)).set 2 (.int .i64 (fdY d1 t).c)).set 3 (.int .i64 (fdY d1 t).d)).set 4 (.int .i64 (fdY d1 t).e)).set 5 (.int .i64 (fdY d1 t).f)).set 6 (.int .i64 (fdY d1 t).g)).set 7 (.int .i64 (fdY d1 t).h))) (show _ = #[.int .i64 (fdY d1 t).a, .int .i64 (fdY d1 t).b, .int .i64 (fdY d1 t).c, .int .i64 (fdY d1 t).d, .int .i64 (fdY d1 t).e, .int .i64 (fdY d1 t).f, .int .i64 (fdY d1 t).g, .int .i64 (fdY d1 t).h] by simp)
        have HO := Lib.hid (HO3.out.upd uS HNE.out)
        have BC := bl_upd B3 uS (Nat.le_refl _)
        clear uS HO3
        obtain ⟨cS, fS, zS⟩ := xS.out
        cases hok : okD (fdY d1 t) with
        | false =>
          have E1 := Lib.hid hok
          have HR2 := Lib.hid (show R = ([], 5) by rw [← HE.out, stepd_bad hok])
          clear hok
          go_wp2_with fail
          refine (iokD_eq E1.out _).mono ?_
          rintro e w5 ⟨rfl, hb5⟩
          go_wp2
          go_ret2
          exact finp_no HR2.out (bl_call BC hb5)
        | true =>
          have E1 := Lib.hid hok
          have HBF := Lib.hid (okD_bd hok)
          by_cases hi0 : i = 0
          · exact absurd hi0 (by have := HPY.out; omega)
          · have ci : ((i : Int) == 0) = false := by rw [beq_eq_false_iff_ne]; omega
            have hl1 := HJF.out.len
            cases hem : emitDF (fdY d1 t) o1 with
            | none =>
              have HR2 := Lib.hid (show R = ([], 5) by rw [← HE.out, stepd_none hok hi0 hem])
              have HEM := Lib.hid hem
              clear hok hem
              go_wp2_with fail
              refine (iokD_eq E1.out _).mono ?_
              rintro e w5 ⟨rfl, hb5⟩
              have x5 := xS.below hb5
              have B5 := bl_call BC hb5
              have h5s := B5.size
              have HO5 := Lib.hid (HO.out.below hb5)
              clear cS fS zS xS
              obtain ⟨c5, f5, z5⟩ := x5.out
              go_wp2_with fail
              have HH := iemA_any (d := fdY d1 t) HO5.out h5s HBF.out hl1
              refine HH.mono ?_
              clear HH
              rintro e w6 hE
              rw [HEM.out] at hE
              obtain ⟨hU, d2, v2, b2, rfl⟩ := hE
              have x6 : Bx w6 (w.heap.size) #[.int .i64 (fdY d1 t).a, .int .i64 (fdY d1 t).b, .int .i64 (fdY d1 t).c, .int .i64 (fdY d1 t).d, .int .i64 (fdY d1 t).e, .int .i64 (fdY d1 t).f, .int .i64 (fdY d1 t).g, .int .i64 (fdY d1 t).h] := x5.upv hU (by omega) HNE.out
              have B6 := bl_upv B5 hU h5s (fun k hk => (HO5.out.lt k hk).1)
              have h6s := B6.size
              clear c5 f5 z5
              obtain ⟨c6, f6, z6⟩ := x6.out
              go_wp2
              go_ret2
              refine finp_no HR2.out ?_
              repeat first | (with_reducible assumption) | (with_reducible exact bl_refl _) | (with_reducible refine bl_alloc ?_ _) | (with_reducible refine bl_set ?_ (by first | exact Nat.le_refl _ | (simp; done) | (simp; omega)) _)
            | some r =>
              obtain ⟨d2, o2, b2⟩ := r
              have HK := Lib.hid (emd_keeps (okD_bd hok) HJF.out hem)
              have HEM := Lib.hid hem
              have HOK := Lib.hid hok
              clear hok hem
              go_wp2_with fail
              refine (iokD_eq E1.out _).mono ?_
              rintro e w5 ⟨rfl, hb5⟩
              have x5 := xS.below hb5
              have B5 := bl_call BC hb5
              have h5s := B5.size
              have HO5 := Lib.hid (HO.out.below hb5)
              clear cS fS zS xS
              obtain ⟨c5, f5, z5⟩ := x5.out
              go_wp2_with fail
              have HH := iemA_any (d := fdY d1 t) HO5.out h5s HBF.out hl1
              refine HH.mono ?_
              clear HH
              rintro e w6 hE
              rw [HEM.out] at hE
              obtain ⟨hU, v2, rfl, ho2, hr2⟩ := hE
              have x6 : Bx w6 (w.heap.size) #[.int .i64 (fdY d1 t).a, .int .i64 (fdY d1 t).b, .int .i64 (fdY d1 t).c, .int .i64 (fdY d1 t).d, .int .i64 (fdY d1 t).e, .int .i64 (fdY d1 t).f, .int .i64 (fdY d1 t).g, .int .i64 (fdY d1 t).h] := x5.upv hU (by omega) HNE.out
              have B6 := bl_upv B5 hU h5s (fun k hk => (HO5.out.lt k hk).1)
              have h6s := B6.size
              have HNE2 := Lib.hid (own_ne hr2 HNE.out (by omega))
              obtain ⟨va, vc, rfl, _⟩ := ho2.form
              have HO2 := Lib.hid ho2
              clear c5 f5 z5 ho2 hr2
              obtain ⟨c6, f6, z6⟩ := x6.out
              have uW := (upd_set (upd_set (upd_set (upd_set (upd_set (upd_set (upd_set (upd_set (upd_refl w6 w.heap.size) 0 (.int .i64 d2.a)) 1 (.int .i64 d2.b)) 2 (.int .i64 d2.c)) 3 (.int .i64 d2.d)) 4 (.int .i64 d2.e)) 5 (.int .i64 d2.f)) 6 (.int .i64 d2.g)) 7 (.int .i64 d2.h))
              have xW := (Bx.cong (((((((((x6.set 0 (.int .i64 d2.a)).set 1 (.int .i64 d2.b)).set 2 (.int .i64 d2.c)).set 3 (.int .i64 d2.d)).set 4 (.int .i64 d2.e)).set 5 (.int .i64 d2.f)).set 6 (.int .i64 d2.g)).set 7 (.int .i64 d2.h))) (show _ = #[.int .i64 d2.a, .int .i64 d2.b, .int .i64 d2.c, .int .i64 d2.d, .int .i64 d2.e, .int .i64 d2.f, .int .i64 d2.g, .int .i64 d2.h] by simp)).alloc (.cells #[.int .i64 d2.a, .int .i64 d2.b, .int .i64 d2.c, .int .i64 d2.d, .int .i64 d2.e, .int .i64 d2.f, .int .i64 d2.g, .int .i64 d2.h] 89)
              have HOW := Lib.hid ((HO2.out.upd uW HNE2.out).alloc (.cells #[.int .i64 d2.a, .int .i64 d2.b, .int .i64 d2.c, .int .i64 d2.d, .int .i64 d2.e, .int .i64 d2.f, .int .i64 d2.g, .int .i64 d2.h] 89))
              have BW := bl_alloc (bl_upd B6 uW (Nat.le_refl _)) (.cells #[.int .i64 d2.a, .int .i64 d2.b, .int .i64 d2.c, .int .i64 d2.d, .int .i64 d2.e, .int .i64 d2.f, .int .i64 d2.g, .int .i64 d2.h] 89)
              cases b2 with
              | false =>
                have HE2 := Lib.hid (show runDF xs ys (i + 1) d2 o2 = R by rw [← HE.out, stepd_on HOK.out hi0 HEM.out])
                go_wp2
                go_roundw
                case rel => exact ⟨i + 1, d2, o2, _, rfl, by go_num, hin1, hin2, xW, HOW.out, HE2, Lib.hid HK.out.1, Lib.hid HK.out.2.1, Lib.hid (fun q => absurd q (by omega)), HNE2, BW⟩
                case measure => simp only [intOf, Int.toNat_natCast]; omega
              | true =>
                have HD := Lib.hid (HK.out.2.1.done (HK.out.2.2.1 rfl).1 (HK.out.2.2.1 rfl).2)
                have HR2 := Lib.hid (show R = (shortL o2, 0) by rw [← HE.out, stepd_done HOK.out hi0 HEM.out])
                have hl2 := HK.out.2.1.len
                have hWs := BW.size
                go_wp2_with fail
                refine (shortI_any _ o2 _ HOW.out.sl (by omega) HK.out.2.1.shb).mono ?_
                rintro e w7 ⟨a7, c7, rfl, ho7, hb7⟩
                have B7 := bl_call BW hb7
                have HO7 := Lib.hid ho7
                have H7 := Lib.hid hWs
                clear c6 f6 z6 ho7 hWs
                go_wp2_with fail
                refine (ivalT_eqN HD.out.1 _ HO7.out.sl (by rw [HD.out.2]; omega)).mono ?_
                rintro e w8 ⟨rfl, hb8⟩
                go_wp2
                go_ret2
                exact finp_yes HR2.out H7.out (HO7.out.below hb8) (bl_call B7 hb8)
      · obtain ⟨k1, hk1⟩ : ∃ k1 : Nat, k1 = k + 1 := ⟨_, rfl⟩
        have HK1 := Lib.hid hk1
        have hk1I : (k : Int) + 1 = (k1 : Int) := by omega
        have hwrap : IntKind.i64.wrap ((k : Int) + 1) = (k1 : Int) := by rw [hk1I, IntKind.wrap_i64]; omega
        have hwrap2 : IntKind.i64.wrap (k1 : Int) = (k1 : Int) := by rw [IntKind.wrap_i64]; omega
        have ck : ((k : Int) == (ys.length : Int)) = true := by simp; omega
        have HRR := Lib.hid (show R = restF (leY d1) o1 (xs.drop k1) by rw [← HR1.out, rund_yend (by omega) (by omega) (by omega), show i / 2 = k by omega, ← HK1.out])
        have hkpos : 1 ≤ k1 := by omega
        have hkx : k1 ≤ xs.length := by omega
        clear hk1
        clear hk
        have hmin : ¬ (xs.length : Int) < (k1 : Int) := by omega
        have hmin2 : (k1 : Int) ≤ (xs.length : Int) := by omega
        have hmin4 : ¬ xs.length < k1 := by omega
        have hmin5 : k1 ≤ xs.length := by omega
        have hmin3 : (0 : Int) ≤ (k1 : Int) := by omega
        have HDB := Lib.hid (drop_bd (k := k1) HP.out (by omega))
        have HLB := Lib.hid (show (xs.drop k1).length ≤ 1000000 by rw [List.length_drop]; omega)
        by_cases hck : cx = k1
        · have HD := Lib.hid (sl_dropB HX.out (k := k1) (by omega) hck)
          have hck2 := hck
          go_upto_region 9 with fail
          go_region_law ((first | (go_simp; go_at_call 95; go_must (refine (ileY_any d1 _).mono ?_; rintro e w3 ⟨rfl, hb3⟩; have HO3 := Lib.hid (HO.out.drew.below hb3); have B3 : Bl w w3 := bl_call (bl_drew Br) hb3); go_wp2_with fail) | (go_simp; go_at_call 93; go_must (refine (ifin_any (w0 := w) (s := leY d1) B3 HD.out HO3.out (bdS_leY HBB.out) HJ.out.leY HDB.out HLB.out).mono ?_; rintro e w4 hF; have hF2 := finp_is HRR.out hF; obtain ⟨y, yn, yc, rfl, hy, hBy⟩ := hF); go_wp2_with fail)))
          all_goals (go_wp2; go_ret2; exact hF2)
        · have HD := Lib.hid (sl_dropA HX.out (k := k1) (by omega))
          go_upto_region 9 with fail
          go_region_law ((first | (go_simp; go_at_call 95; go_must (refine (ileY_any d1 _).mono ?_; rintro e w3 ⟨rfl, hb3⟩; have HO3 := Lib.hid (HO.out.drew.below hb3); have B3 : Bl w w3 := bl_call (bl_drew Br) hb3); go_wp2_with fail) | (go_simp; go_at_call 93; go_must (refine (ifin_any (w0 := w) (s := leY d1) B3 HD.out HO3.out (bdS_leY HBB.out) HJ.out.leY HDB.out HLB.out).mono ?_; rintro e w4 hF; have hF2 := finp_is HRR.out hF; obtain ⟨y, yn, yc, rfl, hy, hBy⟩ := hF); go_wp2_with fail)))
          all_goals (go_wp2; go_ret2; exact hF2)

end Go.Proofs.Ytgkelemfbmmgnaa

