/- Some of the texts of this claim, joined in one file: ConvAt, SdE. -/
import Derived.Test.YtgkelemfbmmgnaaGreatMSv20
import Derived.Test.YtgkelemfbmmgnaaGreatMSv21
import Derived.Test.YtgkelemfbmmgnaaGreatMSv19
/- ConvergentAt: the program and the reference give the same. No condition. -/
namespace Go.Proofs.YtgkelemfbmmgnaaGreat
open Go.RowKit
set_option linter.unusedVariables false
set_option linter.unusedSimpArgs false

theorem termP_60 {s : Src} (ok : OkSrc s) (k : Nat) (hk : k ≤ 60) : -1000000000 ≤ (termP s k).1 ∧ (termP s k).1 ≤ 1000000000 := by
  unfold termP
  split
  · rename_i h
    have e : s.H[k]? = some s.H[k] := List.getElem?_eq_getElem h
    have := ok.hd k _ e
    unfold lowAt at this
    simp [e]
    split at this <;> omega
  · split
    · simp
    · rename_i h h2
      have hm : (k - s.H.length) % s.P.length < s.P.length := Nat.mod_lt _ (by omega)
      have hm2 : (k - s.H.length) % s.P.length < s.G.length := by rw [ok.gp]; exact hm
      have e1 : s.P[(k - s.H.length) % s.P.length]? = some s.P[(k - s.H.length) % s.P.length] := List.getElem?_eq_getElem hm
      have e2 : s.G[(k - s.H.length) % s.P.length]? = some s.G[(k - s.H.length) % s.P.length] := List.getElem?_eq_getElem hm2
      have b1 := ok.per _ _ e1
      have b2 := ok.gr _ _ e2
      have hq : (k - s.H.length) / s.P.length ≤ k := Nat.le_trans (Nat.div_le_self _ _) (by omega)
      simp only [List.getD_eq_getElem?_getD, e1, e2, Option.getD_some]
      generalize (k - s.H.length) / s.P.length = Q at *
      have hp := prod_bd (Q : Int) s.G[(k - s.H.length) % s.P.length] 60 1000000 (by omega) (by omega) b2.1 b2.2
      omega
theorem firstG_bd {s : Src} (ok : OkSrc s) (n : Nat) : ∀ k, n + k ≤ 60 → ∀ x ∈ firstG s n k, -1000000000 ≤ x ∧ x ≤ 1000000000 := by
  induction n with
  | zero => intro k _ x hx; simp [firstG] at hx
  | succ n ih =>
    intro k hk x hx
    rw [firstG] at hx
    split at hx
    · rcases List.mem_cons.1 hx with rfl | hx
      · exact termP_60 ok k (by omega)
      · exact ih (k + 1) (by omega) x hx
    · cases hx
theorem firstI_int {m : Int} {M : Nat} (e : m = M) (h p g : Value) (s : Src) (w : World) (hs : SlS w h p g s) (ok : OkSrc s) (hM : M ≤ 1000) :
    Calls Tryz.prog 39 #[.agg #[h, p, g], .int .i64 m] w fun e w' => ∃ a c, e = .returned (.slice a (firstL s M).length c) ∧ Own w' w.heap.size (.slice a (firstL s M).length c) (firstL s M) ∧ Bl w w' := by
  subst e
  exact firstI_any h p g s M w hs ok hM
theorem firstS_int {m : Int} {M : Nat} (e : m = M) (h p g : Value) (s : Src) (w : World) (b : Nat) (hs : SlS w h p g s) (hx0 : Bx w b #[h, p, g]) (ok : OkSrc s) (hM : M ≤ 1000) :
    Calls Tryz.prog 43 #[.pointer (some ⟨b, 0, none⟩), .int .i64 m] w fun e w' => ∃ a c, e = .returned (.slice a (firstL s M).length c) ∧ Own w' w.heap.size (.slice a (firstL s M).length c) (firstL s M) ∧ Bl w w' := by
  subst e
  exact firstS_any h p g s M w b hs hx0 ok hM
theorem ret_fi {r : (Int × Int) × Int} {x y c : Int} (h : r = ((x, y), c)) : Ending.returned (.tuple #[.agg #[.int .i64 x, .int .i64 y], .int .i64 c]) = .returned (.tuple #[.agg #[.int .i64 r.1.1, .int .i64 r.1.2], .int .i64 r.2]) := by subst h; rfl
/-- The element of a list of fractions, or a code. -/
def pickF (o : Option (List (Int × Int))) (k : Nat) : (Int × Int) × Int := match o with | none => ((0, 0), 5) | some fs => (fs.getD k (0, 0), 0)
noncomputable def convAtF (s : Src) (k : Int) : (Int × Int) × Int :=
  if okSrc s then (if inB k 0 59 then (if (firstL s (k.toNat + 1)).length ≤ k.toNat then ((0, 0), 3) else pickF (convL (firstL s (k.toNat + 1))) k.toNat) else ((0, 0), 2)) else ((0, 0), 1)

set_option maxRecDepth 100000 in
set_option maxHeartbeats 3200000 in
theorem impl_ConvergentAt (h p g : Value) (s : Src) (k : Int) (w : World) (hs : SlS w h p g s) :
    Calls Tryz.prog 12 #[.agg #[h, p, g], .int .i64 k] w fun e w' => e = .returned (.tuple #[.agg #[.int .i64 (convAtF s k).1.1, .int .i64 (convAtF s k).1.2], .int .i64 (convAtF s k).2]) ∧ Bl w w' := by
  cases e1 : okSrc s with
  | false =>
    have HR := Lib.hid (show convAtF s k = ((0, 0), 1) by simp [convAtF, e1])
    have E1 := Lib.hid e1
    clear e1
    go_enter Tryz.func12, Tryz.ntmps12
    go_wp2_with fail
    refine (ivalid_eqF E1.out _ (hs.below (bl_alloc (bl_alloc (bl_refl _) _) _))).mono ?_
    rintro e w1 ⟨rfl, hb1⟩
    have B1 : Bl w w1 := bl_call (bl_alloc (bl_alloc (bl_refl _) _) _) hb1
    have xF_1 : Bx w1 (w.heap.size) #[h, p, g] := ((Bx.new (b := w.heap.size) _ #[h, p, g] 29 (by first | rfl | simp)).alloc _).below hb1
    have xR_1 : Bx w1 (w.heap.size + 1) #[.int .i64 0, .int .i64 0] := (Bx.new (b := w.heap.size + 1) _ #[.int .i64 0, .int .i64 0] 25 (by first | rfl | simp)).below hb1
    obtain ⟨cF_1, fF_1, zF_1⟩ := xF_1.out
    obtain ⟨cR_1, fR_1, zR_1⟩ := xR_1.out
    go_wp2
    refine bodyPost_ret (v := .tuple #[.agg #[.int .i64 0, .int .i64 0], .int .i64 1]) (by simp only [results, Tryz.results12]; go_simp) rfl ?_
    refine ⟨ret_fi (by rw [HR.out]), ?_⟩
    repeat first | (with_reducible exact B1) | (with_reducible refine bl_alloc ?_ _) | (with_reducible refine bl_drew ?_) | (with_reducible refine bl_set ?_ (by first | exact Nat.le_refl _ | (simp; done) | (simp; omega)) _)
  | true =>
    cases e2 : inB k 0 59 with
    | false =>
      have HR := Lib.hid (show convAtF s k = ((0, 0), 2) by simp [convAtF, e1, e2])
      have E1 := Lib.hid e1
      clear e1
      have E2 := Lib.hid e2
      clear e2
      go_enter Tryz.func12, Tryz.ntmps12
      go_wp2_with fail
      refine (ivalid_eqF E1.out _ (hs.below (bl_alloc (bl_alloc (bl_refl _) _) _))).mono ?_
      rintro e w1 ⟨rfl, hb1⟩
      have B1 : Bl w w1 := bl_call (bl_alloc (bl_alloc (bl_refl _) _) _) hb1
      have xF_1 : Bx w1 (w.heap.size) #[h, p, g] := ((Bx.new (b := w.heap.size) _ #[h, p, g] 29 (by first | rfl | simp)).alloc _).below hb1
      have xR_1 : Bx w1 (w.heap.size + 1) #[.int .i64 0, .int .i64 0] := (Bx.new (b := w.heap.size + 1) _ #[.int .i64 0, .int .i64 0] 25 (by first | rfl | simp)).below hb1
      obtain ⟨cF_1, fF_1, zF_1⟩ := xF_1.out
      obtain ⟨cR_1, fR_1, zR_1⟩ := xR_1.out
      go_wp2_with fail
      refine (within_eqF E2.out _).mono ?_
      rintro e w9 ⟨rfl, rfl⟩
      go_wp2
      refine bodyPost_ret (v := .tuple #[.agg #[.int .i64 0, .int .i64 0], .int .i64 2]) (by simp only [results, Tryz.results12]; go_simp) rfl ?_
      refine ⟨ret_fi (by rw [HR.out]), ?_⟩
      repeat first | (with_reducible exact B1) | (with_reducible refine bl_alloc ?_ _) | (with_reducible refine bl_drew ?_) | (with_reducible refine bl_set ?_ (by first | exact Nat.le_refl _ | (simp; done) | (simp; omega)) _)
    | true =>
      have hk := inB_iff.1 e2
      obtain ⟨K, rfl⟩ := Int.eq_ofNat_of_zero_le (show 0 ≤ k by omega)
      have HR := (show convAtF s K = if (firstL s (K + 1)).length ≤ K then ((0, 0), 3) else pickF (convL (firstL s (K + 1))) K by simp [convAtF, e1, e2])
      have K1 := okSrc_iff.1 e1
      have hfl := firstG_len s (K + 1) 0
      have hfl : (firstL s (K + 1)).length ≤ K + 1 := hfl
      have hbd := Lib.hid (show ∀ x ∈ firstL s (K + 1), -1000000000 ≤ x ∧ x ≤ 1000000000 from firstG_bd K1 (K + 1) 0 (by omega))
      generalize hxs : firstL s (K + 1) = xs at *
      have HXS := Lib.hid hxs
      clear hxs
      have HR := Lib.hid HR
      have E1 := Lib.hid e1
      clear e1
      have E2 := Lib.hid e2
      clear e2
      go_enter Tryz.func12, Tryz.ntmps12
      go_wp2_with fail
      refine (ivalid_eqF E1.out _ (hs.below (bl_alloc (bl_alloc (bl_refl _) _) _))).mono ?_
      rintro e w1 ⟨rfl, hb1⟩
      have B1 : Bl w w1 := bl_call (bl_alloc (bl_alloc (bl_refl _) _) _) hb1
      have xF_1 : Bx w1 (w.heap.size) #[h, p, g] := ((Bx.new (b := w.heap.size) _ #[h, p, g] 29 (by first | rfl | simp)).alloc _).below hb1
      have xR_1 : Bx w1 (w.heap.size + 1) #[.int .i64 0, .int .i64 0] := (Bx.new (b := w.heap.size + 1) _ #[.int .i64 0, .int .i64 0] 25 (by first | rfl | simp)).below hb1
      obtain ⟨cF_1, fF_1, zF_1⟩ := xF_1.out
      obtain ⟨cR_1, fR_1, zR_1⟩ := xR_1.out
      go_wp2_with fail
      refine (within_eqF E2.out _).mono ?_
      rintro e w9 ⟨rfl, rfl⟩
      go_wp2_with fail
      refine (firstI_int (M := K + 1) (by omega) h p g s _ (hs.below B1) K1 (by omega)).mono ?_
      rintro e w2 ⟨ya, yc, rfl, HY, hb2⟩
      have B2 : Bl w w2 := bl_call B1 hb2
      have xF_2 : Bx w2 (w.heap.size) #[h, p, g] := xF_1.below hb2
      have xR_2 : Bx w2 (w.heap.size + 1) #[.int .i64 0, .int .i64 0] := xR_1.below hb2
      clear cF_1 fF_1 zF_1 cR_1 fR_1 zR_1
      obtain ⟨cF_2, fF_2, zF_2⟩ := xF_2.out
      obtain ⟨cR_2, fR_2, zR_2⟩ := xR_2.out
      rw [HXS.out] at HY
      rw [HXS.out]
      have HY := Lib.hid HY
      by_cases hkl : xs.length ≤ K
      ·
        have HK := Lib.hid hkl
        go_wp2_with (go_at_call 40; refine (lsize_any _ _ _ _ (by omega)).mono ?_; rintro e w9 ⟨rfl, rfl⟩)
        have _ := True.intro
        go_wp2
        refine bodyPost_ret (v := .tuple #[.agg #[.int .i64 0, .int .i64 0], .int .i64 3]) (by simp only [results, Tryz.results12]; go_simp) rfl ?_
        refine ⟨ret_fi (by rw [HR.out, if_pos HK.out]), ?_⟩
        repeat first | (with_reducible exact B2) | (with_reducible refine bl_alloc ?_ _) | (with_reducible refine bl_drew ?_) | (with_reducible refine bl_set ?_ (by first | exact Nat.le_refl _ | (simp; done) | (simp; omega)) _)
      ·
        have HK := Lib.hid hkl
        have hkl2 : K < xs.length := by omega
        clear hkl
        go_wp2_with (go_at_call 40; refine (lsize_any _ _ _ _ (by omega)).mono ?_; rintro e w9 ⟨rfl, rfl⟩)
        refine (convI_any _ xs _ HY.out.sl (by omega) hbd.out).mono ?_
        rintro e w3 ⟨ca, cn, cc, rfl, HC, hb3⟩
        have B3 : Bl w w3 := bl_call B2 hb3
        have xF_3 : Bx w3 (w.heap.size) #[h, p, g] := xF_2.below hb3
        have xR_3 : Bx w3 (w.heap.size + 1) #[.int .i64 0, .int .i64 0] := xR_2.below hb3
        clear cF_2 fF_2 zF_2 cR_2 fR_2 zR_2
        obtain ⟨cF_3, fF_3, zF_3⟩ := xF_3.out
        obtain ⟨cR_3, fR_3, zR_3⟩ := xR_3.out
        cases hc : convL xs with
        | none =>
          have HV := Lib.hid hc
          rw [hc] at HC
          clear hc HC
          rw [show (none : Option (List (Int × Int))).isSome = false from rfl]
          go_wp2
          refine bodyPost_ret (v := .tuple #[.agg #[.int .i64 0, .int .i64 0], .int .i64 5]) (by simp only [results, Tryz.results12]; go_simp) rfl ?_
          refine ⟨ret_fi (by rw [HR.out, if_neg HK.out, HV.out]; rfl), ?_⟩
          repeat first | (with_reducible exact B3) | (with_reducible refine bl_alloc ?_ _) | (with_reducible refine bl_drew ?_) | (with_reducible refine bl_set ?_ (by first | exact Nat.le_refl _ | (simp; done) | (simp; omega)) _)
        | some fs =>
          have HV := Lib.hid hc
          rw [hc] at HC
          have hfs : fs.length = xs.length := convG_len hc
          rw [show (some fs).isSome = true from rfl]
          have HC : OwnF _ _ (.slice ca cn cc) fs := HC
          obtain ⟨a9, c9, e9, hc9⟩ := HC.form
          simp only [Value.slice.injEq] at e9
          obtain ⟨rfl, rfl, rfl⟩ := e9
          obtain ⟨gb, go, rfl, x, y, hxy, cx, cy⟩ := HC.slF.cellAt (bl_refl _) (k := K) (by omega)
          have HXY := Lib.hid hxy
          have hKf : K < fs.length := by omega
          clear hc hxy HC hfs
          go_wp2
          refine bodyPost_ret (v := .tuple #[.agg #[.int .i64 x, .int .i64 y], .int .i64 0]) (by simp only [results, Tryz.results12]; go_simp) rfl ?_
          refine ⟨ret_fi (by rw [HR.out, if_neg HK.out, HV.out]; simp [pickF, HXY.out]), ?_⟩
          repeat first | (with_reducible exact B3) | (with_reducible refine bl_alloc ?_ _) | (with_reducible refine bl_drew ?_) | (with_reducible refine bl_set ?_ (by first | exact Nat.le_refl _ | (simp; done) | (simp; omega)) _)

set_option maxRecDepth 100000 in
set_option maxHeartbeats 3200000 in
theorem spec_ConvergentAt (h p g : Value) (s : Src) (k : Int) (w : World) (hs : SlS w h p g s) :
    Calls Tryz.prog 13 #[.agg #[h, p, g], .int .i64 k] w fun e w' => e = .returned (.tuple #[.agg #[.int .i64 (convAtF s k).1.1, .int .i64 (convAtF s k).1.2], .int .i64 (convAtF s k).2]) ∧ Bl w w' := by
  cases e1 : okSrc s with
  | false =>
    have HR := Lib.hid (show convAtF s k = ((0, 0), 1) by simp [convAtF, e1])
    have E1 := Lib.hid e1
    clear e1
    go_enter Tryz.func13, Tryz.ntmps13
    go_wp2_with fail
    refine (svalid_eqF E1.out _ (w.heap.size) (hs.below (bl_alloc (bl_alloc (bl_refl _) _) _)) ((Bx.new (b := w.heap.size) _ #[h, p, g] 29 (by first | rfl | simp)).alloc _)).mono ?_
    rintro e w1 ⟨rfl, hb1⟩
    have B1 : Bl w w1 := bl_call (bl_alloc (bl_alloc (bl_refl _) _) _) hb1
    have xF_1 : Bx w1 (w.heap.size) #[h, p, g] := ((Bx.new (b := w.heap.size) _ #[h, p, g] 29 (by first | rfl | simp)).alloc _).below hb1
    have xR_1 : Bx w1 (w.heap.size + 1) #[.int .i64 0, .int .i64 0] := (Bx.new (b := w.heap.size + 1) _ #[.int .i64 0, .int .i64 0] 25 (by first | rfl | simp)).below hb1
    obtain ⟨cF_1, fF_1, zF_1⟩ := xF_1.out
    obtain ⟨cR_1, fR_1, zR_1⟩ := xR_1.out
    go_wp2
    refine bodyPost_ret (v := .tuple #[.agg #[.int .i64 0, .int .i64 0], .int .i64 1]) (by simp only [results, Tryz.results13]; go_simp) rfl ?_
    refine ⟨ret_fi (by rw [HR.out]), ?_⟩
    repeat first | (with_reducible exact B1) | (with_reducible refine bl_alloc ?_ _) | (with_reducible refine bl_drew ?_) | (with_reducible refine bl_set ?_ (by first | exact Nat.le_refl _ | (simp; done) | (simp; omega)) _)
  | true =>
    cases e2 : inB k 0 59 with
    | false =>
      have HR := Lib.hid (show convAtF s k = ((0, 0), 2) by simp [convAtF, e1, e2])
      have E1 := Lib.hid e1
      clear e1
      have E2 := Lib.hid e2
      clear e2
      go_enter Tryz.func13, Tryz.ntmps13
      go_wp2_with fail
      refine (svalid_eqF E1.out _ (w.heap.size) (hs.below (bl_alloc (bl_alloc (bl_refl _) _) _)) ((Bx.new (b := w.heap.size) _ #[h, p, g] 29 (by first | rfl | simp)).alloc _)).mono ?_
      rintro e w1 ⟨rfl, hb1⟩
      have B1 : Bl w w1 := bl_call (bl_alloc (bl_alloc (bl_refl _) _) _) hb1
      have xF_1 : Bx w1 (w.heap.size) #[h, p, g] := ((Bx.new (b := w.heap.size) _ #[h, p, g] 29 (by first | rfl | simp)).alloc _).below hb1
      have xR_1 : Bx w1 (w.heap.size + 1) #[.int .i64 0, .int .i64 0] := (Bx.new (b := w.heap.size + 1) _ #[.int .i64 0, .int .i64 0] 25 (by first | rfl | simp)).below hb1
      obtain ⟨cF_1, fF_1, zF_1⟩ := xF_1.out
      obtain ⟨cR_1, fR_1, zR_1⟩ := xR_1.out
      go_wp2_with fail
      refine (in_eqF E2.out _).mono ?_
      rintro e w9 ⟨rfl, rfl⟩
      go_wp2
      refine bodyPost_ret (v := .tuple #[.agg #[.int .i64 0, .int .i64 0], .int .i64 2]) (by simp only [results, Tryz.results13]; go_simp) rfl ?_
      refine ⟨ret_fi (by rw [HR.out]), ?_⟩
      repeat first | (with_reducible exact B1) | (with_reducible refine bl_alloc ?_ _) | (with_reducible refine bl_drew ?_) | (with_reducible refine bl_set ?_ (by first | exact Nat.le_refl _ | (simp; done) | (simp; omega)) _)
    | true =>
      have hk := inB_iff.1 e2
      obtain ⟨K, rfl⟩ := Int.eq_ofNat_of_zero_le (show 0 ≤ k by omega)
      have HR := (show convAtF s K = if (firstL s (K + 1)).length ≤ K then ((0, 0), 3) else pickF (convL (firstL s (K + 1))) K by simp [convAtF, e1, e2])
      have K1 := okSrc_iff.1 e1
      have hfl := firstG_len s (K + 1) 0
      have hfl : (firstL s (K + 1)).length ≤ K + 1 := hfl
      have hbd := Lib.hid (show ∀ x ∈ firstL s (K + 1), -1000000000 ≤ x ∧ x ≤ 1000000000 from firstG_bd K1 (K + 1) 0 (by omega))
      generalize hxs : firstL s (K + 1) = xs at *
      have HXS := Lib.hid hxs
      clear hxs
      have HR := Lib.hid HR
      have E1 := Lib.hid e1
      clear e1
      have E2 := Lib.hid e2
      clear e2
      go_enter Tryz.func13, Tryz.ntmps13
      go_wp2_with fail
      refine (svalid_eqF E1.out _ (w.heap.size) (hs.below (bl_alloc (bl_alloc (bl_refl _) _) _)) ((Bx.new (b := w.heap.size) _ #[h, p, g] 29 (by first | rfl | simp)).alloc _)).mono ?_
      rintro e w1 ⟨rfl, hb1⟩
      have B1 : Bl w w1 := bl_call (bl_alloc (bl_alloc (bl_refl _) _) _) hb1
      have xF_1 : Bx w1 (w.heap.size) #[h, p, g] := ((Bx.new (b := w.heap.size) _ #[h, p, g] 29 (by first | rfl | simp)).alloc _).below hb1
      have xR_1 : Bx w1 (w.heap.size + 1) #[.int .i64 0, .int .i64 0] := (Bx.new (b := w.heap.size + 1) _ #[.int .i64 0, .int .i64 0] 25 (by first | rfl | simp)).below hb1
      obtain ⟨cF_1, fF_1, zF_1⟩ := xF_1.out
      obtain ⟨cR_1, fR_1, zR_1⟩ := xR_1.out
      go_wp2_with fail
      refine (in_eqF E2.out _).mono ?_
      rintro e w9 ⟨rfl, rfl⟩
      go_wp2_with fail
      refine (firstS_int (M := K + 1) (by omega) h p g s _ (w.heap.size) (hs.below B1) xF_1 K1 (by omega)).mono ?_
      rintro e w2 ⟨ya, yc, rfl, HY, hb2⟩
      have B2 : Bl w w2 := bl_call B1 hb2
      have xF_2 : Bx w2 (w.heap.size) #[h, p, g] := xF_1.below hb2
      have xR_2 : Bx w2 (w.heap.size + 1) #[.int .i64 0, .int .i64 0] := xR_1.below hb2
      clear cF_1 fF_1 zF_1 cR_1 fR_1 zR_1
      obtain ⟨cF_2, fF_2, zF_2⟩ := xF_2.out
      obtain ⟨cR_2, fR_2, zR_2⟩ := xR_2.out
      rw [HXS.out] at HY
      rw [HXS.out]
      have HY := Lib.hid HY
      by_cases hkl : xs.length ≤ K
      ·
        have HK := Lib.hid hkl
        have _ := True.intro
        go_wp2
        refine bodyPost_ret (v := .tuple #[.agg #[.int .i64 0, .int .i64 0], .int .i64 3]) (by simp only [results, Tryz.results13]; go_simp) rfl ?_
        refine ⟨ret_fi (by rw [HR.out, if_pos HK.out]), ?_⟩
        repeat first | (with_reducible exact B2) | (with_reducible refine bl_alloc ?_ _) | (with_reducible refine bl_drew ?_) | (with_reducible refine bl_set ?_ (by first | exact Nat.le_refl _ | (simp; done) | (simp; omega)) _)
      ·
        have HK := Lib.hid hkl
        have hkl2 : K < xs.length := by omega
        clear hkl
        go_wp2_with fail
        go_wp2_with fail
        refine (convS_any _ xs _ HY.out.sl (by omega) hbd.out).mono ?_
        rintro e w3 ⟨ca, cn, cc, rfl, HC, hb3⟩
        have B3 : Bl w w3 := bl_call B2 hb3
        have xF_3 : Bx w3 (w.heap.size) #[h, p, g] := xF_2.below hb3
        have xR_3 : Bx w3 (w.heap.size + 1) #[.int .i64 0, .int .i64 0] := xR_2.below hb3
        clear cF_2 fF_2 zF_2 cR_2 fR_2 zR_2
        obtain ⟨cF_3, fF_3, zF_3⟩ := xF_3.out
        obtain ⟨cR_3, fR_3, zR_3⟩ := xR_3.out
        cases hc : convL xs with
        | none =>
          have HV := Lib.hid hc
          rw [hc] at HC
          clear hc HC
          rw [show (none : Option (List (Int × Int))).isSome = false from rfl]
          go_wp2
          refine bodyPost_ret (v := .tuple #[.agg #[.int .i64 0, .int .i64 0], .int .i64 5]) (by simp only [results, Tryz.results13]; go_simp) rfl ?_
          refine ⟨ret_fi (by rw [HR.out, if_neg HK.out, HV.out]; rfl), ?_⟩
          repeat first | (with_reducible exact B3) | (with_reducible refine bl_alloc ?_ _) | (with_reducible refine bl_drew ?_) | (with_reducible refine bl_set ?_ (by first | exact Nat.le_refl _ | (simp; done) | (simp; omega)) _)
        | some fs =>
          have HV := Lib.hid hc
          rw [hc] at HC
          have hfs : fs.length = xs.length := convG_len hc
          rw [show (some fs).isSome = true from rfl]
          have HC : OwnF _ _ (.slice ca cn cc) fs := HC
          obtain ⟨a9, c9, e9, hc9⟩ := HC.form
          simp only [Value.slice.injEq] at e9
          obtain ⟨rfl, rfl, rfl⟩ := e9
          obtain ⟨gb, go, rfl, x, y, hxy, cx, cy⟩ := HC.slF.cellAt (bl_refl _) (k := K) (by omega)
          have HXY := Lib.hid hxy
          have hKf : K < fs.length := by omega
          clear hc hxy HC hfs
          go_wp2
          refine bodyPost_ret (v := .tuple #[.agg #[.int .i64 x, .int .i64 y], .int .i64 0]) (by simp only [results, Tryz.results13]; go_simp) rfl ?_
          refine ⟨ret_fi (by rw [HR.out, if_neg HK.out, HV.out]; simp [pickF, HXY.out]), ?_⟩
          repeat first | (with_reducible exact B3) | (with_reducible refine bl_alloc ?_ _) | (with_reducible refine bl_drew ?_) | (with_reducible refine bl_set ?_ (by first | exact Nat.le_refl _ | (simp; done) | (simp; omega)) _)

end Go.Proofs.YtgkelemfbmmgnaaGreat

/- Draws for the laws on floors of sources. Each theorem names its conditions. -/
namespace Go.Proofs.YtgkelemfbmmgnaaGreat
open Go.RowKit
set_option linter.unusedVariables false
set_option linter.unusedSimpArgs false

theorem f6big_any {w : World} {v : Value} {bs : List Int} (h : SlB w v bs) : Calls Tryz.prog 4 #[v] w fun e w' => e = .returned (.bool (decide (4096 < bs.length))) ∧ w = w' := by
  have hl := h.len
  obtain ⟨a, c, rfl, _⟩ := h.form
  by_cases q : 4096 < bs.length
  · have q2 : (4096 : Int) < (bs.length : Int) := by omega
    have HR := Lib.hid (show true = decide (4096 < bs.length) from (decide_eq_true q).symm)
    clear q
    go_enter Tryz.func4, Tryz.ntmps4
    go_wp2
    go_ret
    exact ⟨ret_bool HR.out, rfl⟩
  · have q2 : ¬ (4096 : Int) < (bs.length : Int) := by omega
    have HR := Lib.hid (show false = decide (4096 < bs.length) from (decide_eq_false q).symm)
    clear q
    go_enter Tryz.func4, Tryz.ntmps4
    go_wp2
    go_ret
    exact ⟨ret_bool HR.out, rfl⟩
def Lens (s : Src) : Prop := s.H.length ≤ 3000000 ∧ s.P.length ≤ 3000000 ∧ s.G.length ≤ 3000000
theorem ownS_set2 {w1 : World} {B b : Nat} {h pp g : Value} {s : Src} (O : OwnS w1 B h pp g s) (hb : ∀ k, blks h pp g k → k ≠ b) (v0 v1 : Value) : OwnS ((w1.setCell ⟨b, 0, none⟩ v0).setCell ⟨b, 1, none⟩ v1) B h pp g s := by
  have st : ∀ {W : World} (j : Nat) (v : Value), OwnS W B h pp g s → OwnS (W.setCell ⟨b, j, none⟩ v) B h pp g s := fun j v o => o.only2 (only_set _ _ _) (fun k hk e => hb k hk (by simpa using e))
  exact st 1 _ (st 0 _ O)
def FlO (w : World) (e : Ending) (w' : World) : Prop := ∃ h pp g s, e = .returned (.agg #[h, pp, g]) ∧ OwnS w' w.heap.size h pp g s ∧ Bl w w'
def NeO (w : World) (e : Ending) (w' : World) : Prop := ∃ h pp g s, ∃ m : Int, e = .returned (.tuple #[.agg #[h, pp, g], .int .i64 m]) ∧ OwnS w' w.heap.size h pp g s ∧ Bl w w'
def CfO (w : World) (e : Ending) (w' : World) : Prop := ∃ h pp g s, ∃ n d m : Int, e = .returned (.tuple #[.agg #[h, pp, g], .agg #[.int .i64 n, .int .i64 d], .int .i64 m]) ∧ OwnS w' w.heap.size h pp g s ∧ Bl w w'
theorem ownS_set3 {w1 : World} {B b : Nat} {h pp g : Value} {s : Src} (O : OwnS w1 B h pp g s) (hb : ∀ k, blks h pp g k → k ≠ b) (v0 v1 v2 : Value) : OwnS (((w1.setCell ⟨b, 0, none⟩ v0).setCell ⟨b, 1, none⟩ v1).setCell ⟨b, 2, none⟩ v2) B h pp g s := by
  have st : ∀ {W : World} (j : Nat) (v : Value), OwnS W B h pp g s → OwnS (W.setCell ⟨b, j, none⟩ v) B h pp g s := fun j v o => o.only2 (only_set _ _ _) (fun k hk e => hb k hk (by simpa using e))
  exact st 2 _ (st 1 _ (st 0 _ O))
end Go.Proofs.YtgkelemfbmmgnaaGreat

