/- Some of the texts of this claim, joined in one file: TsU, Eq. -/
import Derived.Test.YtgkelemfbmmgnaaGreatMSv34
import Derived.Test.YtgkelemfbmmgnaaGreatMSv25
import Derived.Test.YtgkelemfbmmgnaaGreatMSv9
import Derived.Test.YtgkelemfbmmgnaaGreatMSv1
/- The terms of a surd: the program's TermsOfSurd, where the surds come again. Each theorem names its conditions. -/
namespace Go.Proofs.YtgkelemfbmmgnaaGreat
open Go.RowKit
set_option linter.unusedVariables false
set_option linter.unusedSimpArgs false

theorem withT_eq {n lo hi : Int} {b : Bool} (h : inB n lo hi = b) (w : World) : Calls Tryz.prog 38 #[.int .i64 n, .int .i64 lo, .int .i64 hi] w fun e w' => e = .returned (.bool b) ∧ w = w' := h ▸ within_any n lo hi w
theorem inxU_ok {p d q p1 d1 q1 : Int} (w : World) (h : okU p d q = true) (hn : nxS (p, d, q) = ((p1, d1, q1), true)) : Calls Tryz.prog 61 #[.agg #[.int .i64 p, .int .i64 d, .int .i64 q]] w fun e w' => e = .returned (.tuple #[.int .i64 (flU p d q), .agg #[.int .i64 p1, .int .i64 d1, .int .i64 q1], .bool true]) ∧ Bl w w' :=
  (inxU_any w h).mono fun e w' ⟨x, z, h1, h2, h3⟩ => by
    have e2 : nxU p d q (flU p d q) = ((p1, d1, q1), true) := hn
    rw [e2] at h1 h2
    have := h2 rfl
    simp only [Prod.mk.injEq] at this
    obtain ⟨rfl, rfl, rfl⟩ := this
    exact ⟨h1, h3⟩
theorem cyc_ok {L : List Sud} {k : Nat} {s : Sud} (h0 : L[0]? = some s) (hs : okS3 s) (hc : ∀ i, i < L.length → ∃ x, L[i]? = some x ∧ (nxS x).2 = true ∧ L[nix k L.length i]? = some (nxS x).1) : ∀ (i : Nat) (x : Sud), L[i]? = some x → okS3 x := by
  intro i
  induction i with
  | zero => intro x hx; rw [h0] at hx; injection hx with hx; subst hx; exact hs
  | succ i ih =>
    intro x hx
    have hi := (List.getElem?_eq_some_iff.1 hx).1
    obtain ⟨y, h1, h2, h3⟩ := hc i (by omega)
    rw [nix, if_pos hi, hx] at h3
    injection h3 with h3
    subst h3
    exact nx_ok h2
set_option maxRecDepth 100000 in
set_option maxHeartbeats 6400000 in
theorem itos_ok {p0 d0 q0 : Int} {T : List Int} {k n : Nat} (w : World) (h0 : okU p0 d0 q0 = true) (hw : wkF [] [] (p0, d0, q0) = some (T, k)) (hn : n ≤ 200) :
    Calls Tryz.prog 22 #[.agg #[.int .i64 p0, .int .i64 d0, .int .i64 q0], .int .i64 n] w fun e w' => ∃ a c, e = .returned (.tuple #[.slice a (tsL T k n).length c, .int .i64 0]) ∧ Own w' w.heap.size (.slice a (tsL T k n).length c) (tsL T k n) ∧ Bl w w' := by
  obtain ⟨L, hT, hk, hs, hc⟩ := wkF_cyc hw
  have hok := cyc_ok hs h0 hc
  have HC := Lib.hid hc
  have HOK := Lib.hid hok
  have HT := Lib.hid hT
  have HK := Lib.hid hk
  have HS := Lib.hid (show L[ixU k L.length 0]? = some (p0, d0, q0) by rw [ixU_low (by omega)]; exact hs)
  have H0 := Lib.hid h0
  have HTL := Lib.hid (show T.length = L.length by rw [hT]; simp)
  have E1 := Lib.hid (show inB (n : Int) 0 200 = true from inB_iff.2 (by omega))
  clear hT hs hc hok h0 hw hk
  go_enter Tryz.func22, Tryz.ntmps22
  go_wp2_with fail
  have xS : Bx (w.alloc (.cells #[.int .i64 p0, .int .i64 d0, .int .i64 q0] 33)) w.heap.size #[.int .i64 p0, .int .i64 d0, .int .i64 q0] := Bx.new (b := w.heap.size) w _ 33 rfl
  have B0 : Bl w (w.alloc (.cells #[.int .i64 p0, .int .i64 d0, .int .i64 q0] 33)) := bl_alloc (bl_refl w) _
  have z0 : w.heap.size + 1 ≤ (w.alloc (.cells #[.int .i64 p0, .int .i64 d0, .int .i64 q0] 33)).heap.size := by simp
  generalize w.alloc (.cells #[.int .i64 p0, .int .i64 d0, .int .i64 q0] 33) = wa at *
  obtain ⟨cS, fS, zS⟩ := xS.out
  refine (iokU_eq H0.out _).mono ?_
  rintro e w1 ⟨rfl, hb1⟩
  have xS := xS.below hb1
  have B1 := bl_call B0 hb1
  have z1 : w.heap.size + 1 ≤ w1.heap.size := Nat.le_trans z0 hb1.size
  clear cS fS zS
  go_wp2_with fail
  refine (withT_eq E1.out _).mono ?_
  rintro e w9 ⟨rfl, rfl⟩
  go_wp2_with fail
  go_loopg [6] (n + 1) (fun m s6 wr => ∃ (j : Nat) (p d q : Int), Hid (m + j = n + 1) ∧ j ≤ n ∧ Bx wr w.heap.size #[.int .i64 p, .int .i64 d, .int .i64 q] ∧ Hid (L[ixU k L.length j]? = some (p, d, q)) ∧ Own wr (w.heap.size + 1) s6 (tsL T k j) ∧ Bl w wr ∧ w.heap.size + 1 ≤ wr.heap.size)
  case atStart => exact ⟨0, p0, d0, q0, Lib.hid (by omega), by omega, xS, HS, Own.nil _ _, B1, z1⟩
  case round =>
    obtain ⟨j, p, d, q, HM, hj, xr, HX, hO, hB, hz⟩ := hrel
    clear xS B0 B1 z0 z1
    have HO := Lib.hid hO
    obtain ⟨la, lc, rfl, hlc⟩ := hO.form
    clear hO
    have hl : (tsL T k j).length = j := tsL_len _ _ _
    by_cases hlt : j < n
    · obtain ⟨x, hx1, hx2, hx3⟩ := HC.out (ixU k L.length j) (ixU_lt HK.out j)
      have hxe : x = (p, d, q) := by have := hx1.symm.trans HX.out; simpa using this
      subst hxe
      have HOX := Lib.hid (show okU p d q = true from HOK.out _ _ HX.out)
      obtain ⟨⟨⟨p1, d1, q1⟩, bb⟩, hnx⟩ : ∃ r, nxS (p, d, q) = r := ⟨_, rfl⟩
      rw [hnx] at hx2 hx3
      simp only at hx2 hx3
      subst hx2
      have HNX := Lib.hid hnx
      rw [← ixU_next HK.out] at hx3
      have HXN := Lib.hid hx3
      have HTX := Lib.hid (show T[ixU k T.length j]? = some (flU p d q) by rw [HTL.out, HT.out, List.getElem?_map, HX.out]; rfl)
      have hfl := R64_fl HOX.out
      obtain ⟨t, ht⟩ : ∃ t, flU p d q = t := ⟨_, rfl⟩
      have HTT := Lib.hid ht
      rw [ht] at hfl
      clear hx1 hx3 hnx ht
      obtain ⟨cS, fS, zS⟩ := xr.out
      obtain ⟨ts, hts⟩ : ∃ ts, ts = tsL T k j := ⟨_, rfl⟩
      rw [← hts] at HO hl
      rw [← hts]
      have HTS := Lib.hid hts
      clear hts
      rw [hl]
      go_wp2_with fail
      refine (sizeI_any _ _ _ _ (by omega)).mono ?_
      rintro e w9 ⟨rfl, rfl⟩
      go_wp2_with fail
      refine (inxU_ok _ HOX.out HNX.out).mono ?_
      rw [HTT.out]
      rintro e w2 ⟨rfl, hb2⟩
      have xr2 := (xr.below hb2).alloc (.cells #[.int .i64 p1, .int .i64 d1, .int .i64 q1] 33)
      have xN2 : Bx (w2.alloc (.cells #[.int .i64 p1, .int .i64 d1, .int .i64 q1] 33)) w2.heap.size #[.int .i64 p1, .int .i64 d1, .int .i64 q1] := Bx.new (b := w2.heap.size) w2 _ 33 rfl
      have O2 := (HO.out.below hb2).alloc (.cells #[.int .i64 p1, .int .i64 d1, .int .i64 q1] 33)
      rw [hl] at O2
      have B2 : Bl w (w2.alloc (.cells #[.int .i64 p1, .int .i64 d1, .int .i64 q1] 33)) := bl_alloc (bl_call hB hb2) _
      have z2 : w.heap.size + 1 ≤ w2.heap.size := Nat.le_trans hz hb2.size
      have z3 : w2.heap.size + 1 ≤ (w2.alloc (.cells #[.int .i64 p1, .int .i64 d1, .int .i64 q1] 33)).heap.size := by simp
      have hnr : ∀ b, (Value.slice la j lc).ownBlock = some b → b ≠ w2.heap.size := fun b hb => by have := ((HO.out.below hb2).lt b (by rw [hl]; exact hb)).2; omega
      clear cS fS zS
      obtain ⟨cS, fS, zS⟩ := (xr.below hb2).out
      have HO2 := Lib.hid O2
      have hzz : w.heap.size + 1 ≤ (w2.alloc (.cells #[.int .i64 p1, .int .i64 d1, .int .i64 q1] 33)).heap.size := by omega
      clear O2
      go_wp2_with (at_builtin; refine wpList_append_one rfl _ _ rfl (w.heap.size + 1) _ ts (by rfl) HO2.out t hfl (by first | rfl | simp [Act.eval]) (by omega) hzz ?_; intro v' wn ho hg hloc; obtain ⟨a1, n1, rfl, _⟩ := ho.form; have xSn := xr2.grownApartF hg (fun e => by have := (HO2.out.lt _ e).1; omega); have xNn := xN2.grownApartF hg (fun e => hnr _ e rfl); clear cS fS zS; obtain ⟨cS, fS, zS⟩ := xSn.out; obtain ⟨cN, fN, zN⟩ := xNn.out)
      have hln : (ts ++ [t]).length = j + 1 := by simp [hl]
      rw [hln] at ho
      have Bn := bl_grown B2 hg (fun b hb => by have := (HO2.out.lt b hb).1; omega)
      have zn := hg.size
      go_wp2
      go_roundg (n - j)
      case rel =>
        refine ⟨j + 1, p1, d1, q1, Lib.hid (by have := HM.out; omega), by omega, ((xSn.set 0 _).set 1 _).set 2 _, HXN, ?_, bl_set (bl_set (bl_set Bn (by simp) _) (by simp) _) (by simp) _, by simp; omega⟩
        rw [tsL_succ HTX.out, HTT.out, ← HTS.out]
        exact own_farU (own_farU (own_farU ho (fun b hb => by have := (ho.lt b hb).1; simp; omega) _) (fun b hb => by have := (ho.lt b hb).1; simp; omega) _) (fun b hb => by have := (ho.lt b hb).1; simp; omega) _
      case measure => have := HM.out; omega
    · obtain rfl : j = n := by omega
      rw [hl]
      go_wp2_with fail
      refine (sizeI_any _ _ _ _ (by omega)).mono ?_
      rintro e w9 ⟨rfl, rfl⟩
      go_wp2
      refine bodyPost_ret (v := .tuple #[.slice la j lc, .int .i64 0]) (by simp only [results, Tryz.results22]; go_simp) rfl ?_
      exact ⟨la, lc, by rw [hl], HO.out.mono (by omega), hB⟩

end Go.Proofs.YtgkelemfbmmgnaaGreat

/- Equality of slices of integers: the reference's own function and slices.Equal. Conditions: each theorem names its own. -/
namespace Go.Proofs.YtgkelemfbmmgnaaGreat
open Go.RowKit
set_option linter.unusedVariables false
set_option linter.unusedSimpArgs false

set_option maxHeartbeats 400000 in
theorem lsame_any (va vb : Value) (xs ys : List Int) (w : World) (ha : Sl w va xs) (hb : Sl w vb ys) :
    Calls Tryz.prog 92 #[va, vb] w fun e w' => e = .returned (.bool (decide (xs = ys))) ∧ Drawn w w' := by
  have la := ha.len
  have lb := hb.len
  obtain ⟨a, ca, rfl, h1, h2, h3, h4, h5⟩ := ha
  obtain ⟨b, cb, rfl, g1, g2, g3, g4, g5⟩ := hb
  by_cases hl : xs.length = ys.length
  · have hne : ((xs.length : Int) != (ys.length : Int)) = false := by simp [hl]
    have HL := Lib.hid hl
    have hle : xs.length ≤ ys.length := by omega
    clear hl
    go_enter Tryz.func92, Tryz.ntmps92
    go_wp2
    go_loopw [5] (fun i wr => ∃ k : Nat, k ≤ xs.length ∧ i = .int .i64 k ∧ xs.take k = ys.take k ∧ Drawn w wr) (fun i _ => xs.length - (intOf i).toNat)
    case atStart => exact ⟨0, Nat.zero_le _, rfl, by simp, Drawn.refl _⟩
    case round =>
      obtain ⟨k, hk, rfl, ht, nd, rfl⟩ := hrel
      have HT := Lib.hid ht
      clear ht
      by_cases hlt : k < xs.length
      · rcases h5 with h5 | ⟨p, o, rfl, hc⟩
        · have : xs.length = 0 := by rw [h5]; rfl
          omega
        rcases g5 with g5 | ⟨q, r, rfl, gc⟩
        · have : ys.length = 0 := by rw [g5]; rfl
          omega
        obtain ⟨x, hx⟩ : ∃ x, xs[k]? = some x := ⟨_, List.getElem?_eq_getElem hlt⟩
        obtain ⟨y, hy⟩ : ∃ y, ys[k]? = some y := ⟨_, List.getElem?_eq_getElem (by omega)⟩
        have c1 : w.cell? ⟨p, o + k, none⟩ = some (.int .i64 x) := hc k x hx
        have c2 : w.cell? ⟨q, r + k, none⟩ = some (.int .i64 y) := gc k y hy
        have HX := Lib.hid hx
        have HY := Lib.hid hy
        have hkys : k < ys.length := by omega
        clear hx hy hc gc h3 g3 h4 g4
        by_cases hxy : x = y
        · subst hxy
          have hn : (x != x) = false := by simp
          go_wp2
          go_quiet (fail)
          go_wp2
          go_roundw
          case rel => exact ⟨k + 1, by omega, by go_num, by rw [List.take_add_one, List.take_add_one, HT.out, HX.out, HY.out], _, rfl⟩
          case measure => simp [intOf]; omega
        · have hn : (x != y) = true := by simp [hxy]
          go_wp2
          go_quiet (fail)
          go_wp2
          go_ret
          exact ⟨ret_bool (by
            refine (decide_eq_false ?_).symm
            intro e
            rw [e] at HX
            exact hxy (Option.some.inj (HX.out.symm.trans HY.out))), Drawn.more ⟨nd, rfl⟩ _⟩
      · go_wp2
        go_ret
        exact ⟨ret_bool (by
          refine (decide_eq_true ?_).symm
          have e := HT.out
          rw [List.take_of_length_le (by omega), List.take_of_length_le (by have := HL.out; omega)] at e
          exact e), nd, rfl⟩
  · have hne : ((xs.length : Int) != (ys.length : Int)) = true := by simp; omega
    go_enter Tryz.func92, Tryz.ntmps92
    go_wp2
    go_ret
    exact ⟨ret_bool (by refine (decide_eq_false ?_).symm; intro e; rw [e] at hl; exact hl rfl), Drawn.refl _⟩

end Go.Proofs.YtgkelemfbmmgnaaGreat

