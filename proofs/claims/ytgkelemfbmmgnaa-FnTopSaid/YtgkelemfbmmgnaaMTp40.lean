/- Some of the texts of this claim, joined in one file: SrW, SdG. -/
import Derived.Test.YtgkelemfbmmgnaaMTp4
import Derived.Test.YtgkelemfbmmgnaaMTp18
import Derived.Test.YtgkelemfbmmgnaaMTp13
import Derived.Test.YtgkelemfbmmgnaaMTp39
/- Small walks for laws on states: what is drawn, the value of a state, equal lists. Each theorem names its conditions. -/
namespace Go.Proofs.Ytgkelemfbmmgnaa
open Go.RowKit
set_option linter.unusedVariables false
set_option linter.unusedSimpArgs false


def StD (w0 w : World) (p N : Nat) (e : Ending) (w' : World) : Prop :=
  ∃ a b c d : Int, e = .returned (.agg #[.int .i64 a, .int .i64 b, .int .i64 c, .int .i64 d]) ∧ ((-9 ≤ a ∧ a ≤ 9) ∧ (-9 ≤ b ∧ b ≤ 9) ∧ (-9 ≤ c ∧ c ≤ 9) ∧ (-9 ≤ d ∧ d ≤ 9)) ∧ okS ⟨a, b, c, d⟩ = true ∧ SrcD w0 w' p (N + 50) ∧ Upd w w' p
def StateQ (w : World) (e : Ending) (w' : World) : Prop :=
  ∃ a b c d : Int, e = .returned (.agg #[.int .i64 a, .int .i64 b, .int .i64 c, .int .i64 d]) ∧ ((-9 ≤ a ∧ a ≤ 9) ∧ (-9 ≤ b ∧ b ≤ 9) ∧ (-9 ≤ c ∧ c ≤ 9) ∧ (-9 ≤ d ∧ d ≤ 9)) ∧ okS ⟨a, b, c, d⟩ = true ∧ Bl w w'
def FracsQ (w : World) (e : Ending) (w' : World) : Prop :=
  ∃ n1 d1 n2 d2 n3 d3 : Int, e = .returned (.tuple #[.agg #[.int .i64 n1, .int .i64 d1], .agg #[.int .i64 n2, .int .i64 d2], .agg #[.int .i64 n3, .int .i64 d3]]) ∧ (gcdI n1 d1 = 1 ∧ (1 ≤ d1 ∧ d1 ≤ 300) ∧ (-300 ≤ n1 ∧ n1 ≤ 300)) ∧ (gcdI n2 d2 = 1 ∧ (1 ≤ d2 ∧ d2 ≤ 300) ∧ (-300 ≤ n2 ∧ n2 ≤ 300)) ∧ (gcdI n3 d3 = 1 ∧ (1 ≤ d3 ∧ d3 ≤ 300) ∧ (-300 ≤ n3 ∧ n3 ≤ 300)) ∧ Bl w w'
set_option maxRecDepth 100000 in
set_option maxHeartbeats 3200000 in
theorem a2frac_any {w : World} {v : Value} {bs : List Int} (h : SlB w v bs) (hl : bs.length ≤ 3000) :
    Calls Try.prog 22 #[v] w (FracsQ w) := by
  obtain ⟨av, cv, rfl, hcv⟩ := h.form
  have HS := Lib.hid h
  clear h
  go_enter Try.func22, Try.ntmps22
  go_wp2_with fail
  have xA : Bx (((w.alloc (.cells #[.int .i64 0, .int .i64 0] 44)).alloc (.cells #[.int .i64 0, .int .i64 0] 44)).alloc (.cells #[.int .i64 0, .int .i64 0] 44)) w.heap.size #[.int .i64 0, .int .i64 0] := ((Bx.new (b := w.heap.size) w _ 44 rfl).alloc _).alloc _
  have xB : Bx (((w.alloc (.cells #[.int .i64 0, .int .i64 0] 44)).alloc (.cells #[.int .i64 0, .int .i64 0] 44)).alloc (.cells #[.int .i64 0, .int .i64 0] 44)) (w.heap.size + 1) #[.int .i64 0, .int .i64 0] := (Bx.new (b := w.heap.size + 1) (w.alloc (.cells #[.int .i64 0, .int .i64 0] 44)) _ 44 (by simp)).alloc _
  have xC : Bx (((w.alloc (.cells #[.int .i64 0, .int .i64 0] 44)).alloc (.cells #[.int .i64 0, .int .i64 0] 44)).alloc (.cells #[.int .i64 0, .int .i64 0] 44)) (w.heap.size + 1 + 1) #[.int .i64 0, .int .i64 0] := Bx.new (b := w.heap.size + 1 + 1) ((w.alloc (.cells #[.int .i64 0, .int .i64 0] 44)).alloc (.cells #[.int .i64 0, .int .i64 0] 44)) _ 44 (by simp)
  have hA : Bl w (((w.alloc (.cells #[.int .i64 0, .int .i64 0] 44)).alloc (.cells #[.int .i64 0, .int .i64 0] 44)).alloc (.cells #[.int .i64 0, .int .i64 0] 44)) := bl_alloc (bl_alloc (bl_alloc (bl_refl w) _) _) _
  have hsz : w.heap.size + 3 ≤ (((w.alloc (.cells #[.int .i64 0, .int .i64 0] 44)).alloc (.cells #[.int .i64 0, .int .i64 0] 44)).alloc (.cells #[.int .i64 0, .int .i64 0] 44)).heap.size := by simp
  generalize (((w.alloc (.cells #[.int .i64 0, .int .i64 0] 44)).alloc (.cells #[.int .i64 0, .int .i64 0] 44)).alloc (.cells #[.int .i64 0, .int .i64 0] 44)) = wa at *
  refine (dfrom_any (HS.out.below hA) (by omega)).mono ?_
  rintro e w1 ⟨p, rfl, hD, hb1⟩
  have xA1 := xA.below hb1
  have xB1 := xB.below hb1
  have xC1 := xC.below hb1
  have hp := hD.out
  clear xA xB xC
  go_wp2_with fail
  refine (draw2_any hD (by omega) (by omega)).mono ?_
  rintro e w2 ⟨n1, d1, rfl, g1, e1, f1, hS2, hU2⟩
  have xA2 := (xA1.upd hU2 (by omega)).alloc (.cells #[.int .i64 n1, .int .i64 d1] 44)
  have xB2 := (xB1.upd hU2 (by omega)).alloc (.cells #[.int .i64 n1, .int .i64 d1] 44)
  have xC2 := (xC1.upd hU2 (by omega)).alloc (.cells #[.int .i64 n1, .int .i64 d1] 44)
  have xD2 : Bx (w2.alloc (.cells #[.int .i64 n1, .int .i64 d1] 44)) w2.heap.size #[.int .i64 n1, .int .i64 d1] := Bx.new (b := w2.heap.size) _ _ _ rfl
  have hS2a := hS2.below (bl_alloc (bl_refl w2) (.cells #[.int .i64 n1, .int .i64 d1] 44))
  have hU2a := upd_bl hU2 (bl_alloc (bl_refl w2) (.cells #[.int .i64 n1, .int .i64 d1] 44))
  have z2 := hU2.size
  have z2a : w2.heap.size + 1 ≤ (w2.alloc (.cells #[.int .i64 n1, .int .i64 d1] 44)).heap.size := by simp
  clear xA1 xB1 xC1
  go_wp2_with fail
  generalize w2.alloc (.cells #[.int .i64 n1, .int .i64 d1] 44) = wb at *
  refine (draw2_any hS2a (by omega) (by omega)).mono ?_
  rintro e w3 ⟨n2, d2, rfl, g2, e2, f2, hS3, hU3⟩
  have xA3 := (xA2.upd hU3 (by omega)).alloc (.cells #[.int .i64 n2, .int .i64 d2] 44)
  have xB3 := (xB2.upd hU3 (by omega)).alloc (.cells #[.int .i64 n2, .int .i64 d2] 44)
  have xC3 := (xC2.upd hU3 (by omega)).alloc (.cells #[.int .i64 n2, .int .i64 d2] 44)
  have xD3 := (xD2.upd hU3 (by omega)).alloc (.cells #[.int .i64 n2, .int .i64 d2] 44)
  have xE3 : Bx (w3.alloc (.cells #[.int .i64 n2, .int .i64 d2] 44)) w3.heap.size #[.int .i64 n2, .int .i64 d2] := Bx.new (b := w3.heap.size) _ _ _ rfl
  have hS3a := hS3.below (bl_alloc (bl_refl w3) (.cells #[.int .i64 n2, .int .i64 d2] 44))
  have hU3a := upd_trans hU2a (upd_bl hU3 (bl_alloc (bl_refl w3) (.cells #[.int .i64 n2, .int .i64 d2] 44)))
  have z3 := hU3.size
  have z3a : w3.heap.size + 1 ≤ (w3.alloc (.cells #[.int .i64 n2, .int .i64 d2] 44)).heap.size := by simp
  clear xA2 xB2 xC2 xD2 hS2 hS2a hU2 hU2a hU3
  go_wp2_with fail
  generalize w3.alloc (.cells #[.int .i64 n2, .int .i64 d2] 44) = wc at *
  obtain ⟨cD, fD, zD⟩ := xD3.out
  obtain ⟨cE, fE, zE⟩ := xE3.out
  obtain ⟨cA, fA, zA⟩ := xA3.out
  obtain ⟨cB, fB, zB⟩ := xB3.out
  obtain ⟨cC, fC, zC⟩ := xC3.out
  go_region_with
    ((go_at_call 53; go_must (refine (draw2_any (hS3a.below (bl_drew (bl_refl _))) (by omega) (by omega)).mono ?_; rintro e w4 ⟨n3, d3, rfl, g3, e3, f3, hS4, hU4⟩; have U4 := upd_trans (upd_bl hU3a (bl_drew (bl_refl _))) hU4; have xA4 := (xA3.drew).upd hU4 (by omega); have xB4 := (xB3.drew).upd hU4 (by omega); have xC4 := (xC3.drew).upd hU4 (by omega); have xD4 := (xD3.drew).upd hU4 (by omega); have xE4 := (xE3.drew).upd hU4 (by omega); clear cD fD zD cE fE zE cA fA zA cB fB zB cC fC zC; obtain ⟨cD, fD, zD⟩ := xD4.out; obtain ⟨cE, fE, zE⟩ := xE4.out; obtain ⟨cA, fA, zA⟩ := xA4.out; obtain ⟨cB, fB, zB⟩ := xB4.out; obtain ⟨cC, fC, zC⟩ := xC4.out)))
  all_goals
    have B4 := bl_of_upd (bl_call hA hb1) U4 (by have := hA.size; omega)
    go_wp2
    refine bodyPost_ret (v := .tuple #[.agg #[.int .i64 n1, .int .i64 d1], .agg #[.int .i64 n2, .int .i64 d2], .agg #[.int .i64 n3, .int .i64 d3]]) (by simp only [results, Try.results22]; go_simp) rfl ?_
    exact ⟨_, _, _, _, _, _, rfl, ⟨g1, e1, f1⟩, ⟨g2, e2, f2⟩, ⟨g3, e3, f3⟩, (bl_set (bl_set (bl_set (bl_set (bl_set (bl_set B4 (p := ⟨w.heap.size, 0, none⟩) (by simp; try omega) _) (p := ⟨w.heap.size, 1, none⟩) (by simp; try omega) _) (p := ⟨w.heap.size + 1, 0, none⟩) (by simp; try omega) _) (p := ⟨w.heap.size + 1, 1, none⟩) (by simp; try omega) _) (p := ⟨w.heap.size + 1 + 1, 0, none⟩) (by simp; try omega) _) (p := ⟨w.heap.size + 1 + 1, 1, none⟩) (by simp; try omega) _)⟩

set_option maxHeartbeats 400000 in
theorem a2same_any (va vb : Value) (xs ys : List Int) (w : World) (ha : Sl w va xs) (hb : Sl w vb ys) :
    Calls Try.prog 26 #[va, vb] w fun e w' => e = .returned (.bool (decide (xs = ys))) ∧ Below w.heap.size w w' := by
  have la := ha.len
  have lb := hb.len
  obtain ⟨a, ca, rfl, h1, h2, h3, h4, h5⟩ := ha
  obtain ⟨b, cb, rfl, g1, g2, g3, g4, g5⟩ := hb
  by_cases hl : xs.length = ys.length
  · have hne : ((xs.length : Int) != (ys.length : Int)) = false := by simp [hl]
    have HL := Lib.hid hl
    have hle : xs.length ≤ ys.length := by omega
    clear hl
    go_enter Try.func26, Try.ntmps26
    go_wp2
    go_loopw [5] (fun i wr => ∃ k : Nat, k ≤ xs.length ∧ i = .int .i64 k ∧ xs.take k = ys.take k ∧ Below w.heap.size w wr) (fun i _ => xs.length - (intOf i).toNat)
    case atStart => exact ⟨0, Nat.zero_le _, rfl, by simp, Below.refl _ _⟩
    case round =>
      obtain ⟨k, hk, rfl, ht, hB⟩ := hrel
      have HT := Lib.hid ht
      clear ht
      by_cases hlt : k < xs.length
      · rcases h5 with h5 | ⟨p, o, rfl, hc⟩
        · have : xs.length = 0 := by rw [h5]; rfl
          omega
        rcases g5 with g5 | ⟨q, r, rfl, gc⟩
        · have : ys.length = 0 := by rw [g5]; rfl
          omega
        obtain ⟨x, hx⟩ : ∃ x, xs[k]? = some x := ⟨_, List.getElem?_eq_getElem hlt⟩
        obtain ⟨y, hy⟩ : ∃ y, ys[k]? = some y := ⟨_, List.getElem?_eq_getElem (by omega)⟩
        have c1 : wr.cell? ⟨p, o + k, none⟩ = some (.int .i64 x) := (hB.cell (p := ⟨p, o + k, none⟩) (cell_lt (hc k x hx))).trans (hc k x hx)
        have c2 : wr.cell? ⟨q, r + k, none⟩ = some (.int .i64 y) := (hB.cell (p := ⟨q, r + k, none⟩) (cell_lt (gc k y hy))).trans (gc k y hy)
        have HX := Lib.hid hx
        have HY := Lib.hid hy
        have hkys : k < ys.length := by omega
        clear hx hy hc gc h3 g3 h4 g4
        by_cases hxy : x = y
        · subst hxy
          have hn : (x != x) = false := by simp
          go_wp2
          go_region
          all_goals go_wp2
          all_goals go_roundw
          case rel => exact ⟨k + 1, by omega, by go_num, by rw [List.take_add_one, List.take_add_one, HT.out, HX.out, HY.out], hB.drew⟩
          case measure => simp [intOf]; omega
        · have hn : (x != y) = true := by simp [hxy]
          go_wp2
          go_region
          all_goals go_wp2
          all_goals go_ret
          all_goals exact ⟨ret_bool (by
            refine (decide_eq_false ?_).symm
            intro e
            rw [e] at HX
            exact hxy (Option.some.inj (HX.out.symm.trans HY.out))), hB.drew⟩
      · go_wp2
        go_ret
        exact ⟨ret_bool (by
          refine (decide_eq_true ?_).symm
          have e := HT.out
          rw [List.take_of_length_le (by omega), List.take_of_length_le (by have := HL.out; omega)] at e
          exact e), hB⟩
  · have hne : ((xs.length : Int) != (ys.length : Int)) = true := by simp; omega
    go_enter Try.func26, Try.ntmps26
    go_wp2
    go_ret
    exact ⟨ret_bool (by refine (decide_eq_false ?_).symm; intro e; rw [e] at hl; exact hl rfl), Below.refl _ _⟩

set_option maxRecDepth 100000 in
set_option maxHeartbeats 3200000 in
theorem expandS_okR {n d : Int} (w : World) (ok : okF n d = true) :
    Calls Try.prog 23 #[.agg #[.int .i64 n, .int .i64 d]] w fun e w' => ∃ a c, e = .returned (.tuple #[.slice a (termsF n d).length c, .int .i64 0]) ∧ Own w' w.heap.size (.slice a (termsF n d).length c) (termsF n d) ∧ Bl w w' := by
  have hok := okF_bdE ok
  have HOK := Lib.hid ok
  clear ok
  go_enter Try.func23, Try.ntmps23
  go_wp2_with fail
  refine (ok_any n d _).mono ?_
  rintro e w1 ⟨rfl, hb1⟩
  have B1 : Bl w w1 := bl_call (bl_alloc (bl_refl _) _) hb1
  have xF_1 : Bx w1 (w.heap.size) #[.int .i64 (n), .int .i64 (d)] := (Bx.new (b := w.heap.size) _ #[.int .i64 (n), .int .i64 (d)] 44 (by first | rfl | simp)).below hb1
  obtain ⟨cF_1, fF_1, zF_1⟩ := xF_1.out
  rw [HOK.out]
  go_wp2_with fail
  refine (lterms_any n d _ (by omega) (by omega) (by omega)).mono ?_
  rintro e w2 ⟨a, c, rfl, HO, hb2⟩
  have B2 : Bl w w2 := bl_call B1 hb2
  have xF_2 : Bx w2 (w.heap.size) #[.int .i64 (n), .int .i64 (d)] := xF_1.below hb2
  clear cF_1 fF_1 zF_1
  obtain ⟨cF_2, fF_2, zF_2⟩ := xF_2.out
  have HO := Lib.hid HO
  go_wp2
  go_ret2
  exact ⟨a, c, rfl, HO.out.mono B1.size, B2⟩

/-- The value of a state. -/
def stAtF (a b c d N D : Int) : Int × Int × Int := if c * N + d * D = 0 then (0, 0, 6) else fullF (a * N + b * D) (c * N + d * D)
theorem okR_eq {n d : Int} {b : Bool} (h : okF n d = b) (w : World) : Calls Try.prog 54 #[.agg #[.int .i64 n, .int .i64 d]] w fun e w' => e = .returned (.bool b) ∧ Bl w w' := h ▸ ok_any n d w
end Go.Proofs.Ytgkelemfbmmgnaa

/- Draws of surds and states that are seldom not plain. Each theorem names its conditions. -/
namespace Go.Proofs.Ytgkelemfbmmgnaa
open Go.RowKit
set_option linter.unusedVariables false
set_option linter.unusedSimpArgs false

theorem sud_set {w0 w w1 : World} {p N M : Nat} {x y z : Int} (S : SrcD w0 w1 p M) (U : Upd w w1 p) (hp : p < w.heap.size) (hM : M ≤ N + 120) :
    SudD w0 w p N 120 (.returned (.agg #[.int .i64 x, .int .i64 y, .int .i64 z])) (((w1.setCell ⟨w.heap.size, 0, none⟩ (.int .i64 x)).setCell ⟨w.heap.size, 1, none⟩ (.int .i64 y)).setCell ⟨w.heap.size, 2, none⟩ (.int .i64 z)) := by
  have h0 : w0.heap.size ≤ w.heap.size := by have := S.out.1; omega
  exact ⟨x, y, z, rfl, (((S.far (q := ⟨w.heap.size, 0, none⟩) (by simpa using h0) (by simp; omega) _).far (q := ⟨w.heap.size, 1, none⟩) (by simpa using h0) (by simp; omega) _).far (q := ⟨w.heap.size, 2, none⟩) (by simpa using h0) (by simp; omega) _).more hM, upd_far (upd_far (upd_far U (q := ⟨w.heap.size, 0, none⟩) (by simp) _) (q := ⟨w.heap.size, 1, none⟩) (by simp) _) (q := ⟨w.heap.size, 2, none⟩) (by simp) _⟩
def StB (w0 w : World) (p N : Nat) (e : Ending) (w' : World) : Prop := ∃ a b c d : Int, e = .returned (.agg #[.int .i64 a, .int .i64 b, .int .i64 c, .int .i64 d]) ∧ SrcD w0 w' p (N + 120) ∧ Upd w w' p
theorem stb_set {w0 w w1 : World} {p N M : Nat} {a b c d : Int} (S : SrcD w0 w1 p M) (U : Upd w w1 p) (hp : p < w.heap.size) (hM : M ≤ N + 120) :
    StB w0 w p N (.returned (.agg #[.int .i64 a, .int .i64 b, .int .i64 c, .int .i64 d])) ((((w1.setCell ⟨w.heap.size, 0, none⟩ (.int .i64 a)).setCell ⟨w.heap.size, 1, none⟩ (.int .i64 b)).setCell ⟨w.heap.size, 2, none⟩ (.int .i64 c)).setCell ⟨w.heap.size, 3, none⟩ (.int .i64 d)) := by
  have h0 : w0.heap.size ≤ w.heap.size := by have := S.out.1; omega
  exact ⟨a, b, c, d, rfl, ((((S.far (q := ⟨w.heap.size, 0, none⟩) (by simpa using h0) (by simp; omega) _).far (q := ⟨w.heap.size, 1, none⟩) (by simpa using h0) (by simp; omega) _).far (q := ⟨w.heap.size, 2, none⟩) (by simpa using h0) (by simp; omega) _).far (q := ⟨w.heap.size, 3, none⟩) (by simpa using h0) (by simp; omega) _).more hM, upd_far (upd_far (upd_far (upd_far U (q := ⟨w.heap.size, 0, none⟩) (by simp) _) (q := ⟨w.heap.size, 1, none⟩) (by simp) _) (q := ⟨w.heap.size, 2, none⟩) (by simp) _) (q := ⟨w.heap.size, 3, none⟩) (by simp) _⟩
def SuO (w : World) (e : Ending) (w' : World) : Prop := ∃ x y z : Int, e = .returned (.agg #[.int .i64 x, .int .i64 y, .int .i64 z]) ∧ Bl w w'
def FrO (w : World) (e : Ending) (w' : World) : Prop := ∃ n d : Int, e = .returned (.agg #[.int .i64 n, .int .i64 d]) ∧ Bl w w'
end Go.Proofs.Ytgkelemfbmmgnaa

