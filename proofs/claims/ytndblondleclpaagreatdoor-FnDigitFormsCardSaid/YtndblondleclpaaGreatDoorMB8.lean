/- Some of the texts of this claim, joined in one file: Bnd, BndL. -/
import Derived.Test.YtndblondleclpaaGreatDoorMB6
import Derived.Test.YtndblondleclpaaGreatDoorClone
import Derived.Test.YtndblondleclpaaGreatDoorShort
import Derived.Test.YtndblondleclpaaGreatDoorMB7
import Derived.Test.YtndblondleclpaaGreatDoorOff
/- The bounds of the numbers whose terms begin with a list: the program and the reference. Each theorem names its conditions. -/
namespace Go.Proofs.YtndblondleclpaaGreatDoor
open Go.RowKit
set_option linter.unusedVariables false
set_option linter.unusedSimpArgs false

/-- The terms with the last one greater by 1. -/
def incL (xs : List Int) : List Int := xs.set (xs.length - 1) (xs.getD (xs.length - 1) 0 + 1)
/-- Two fractions, the lesser one first. -/
def ordF (a b : Int × Int) : (Int × Int) × (Int × Int) := if b.1 * a.2 < a.1 * b.2 then (b, a) else (a, b)
/-- The bounds of the numbers whose terms begin with a list, and a code. -/
def bndF (xs : List Int) : ((Int × Int) × (Int × Int)) × Int :=
  match convL xs, decide (xs.getD (xs.length - 1) 0 = 1000000000), convL (incL xs) with
  | some fs, false, some gs => (ordF (fs.getD (xs.length - 1) (0, 0)) (gs.getD (xs.length - 1) (0, 0)), 0)
  | _, _, _ => (((0, 0), (0, 0)), 5)
theorem bndF_none1 {xs : List Int} (h : convL xs = none) : bndF xs = (((0, 0), (0, 0)), 5) := by rw [bndF, h]
theorem bndF_top {xs : List Int} (h : xs.getD (xs.length - 1) 0 = 1000000000) : bndF xs = (((0, 0), (0, 0)), 5) := by
  rw [bndF, h]
  cases convL xs <;> rfl
theorem bndF_none2 {xs : List Int} (h : convL (incL xs) = none) : bndF xs = (((0, 0), (0, 0)), 5) := by
  rw [bndF, h]
  cases convL xs with
  | none => rfl
  | some fs => cases decide (xs.getD (xs.length - 1) 0 = 1000000000) <;> rfl
theorem bndF_some {xs : List Int} {fs gs : List (Int × Int)} {a b : Int × Int} (h : convL xs = some fs) (ht : ¬ xs.getD (xs.length - 1) 0 = 1000000000) (h2 : convL (incL xs) = some gs) (ha : fs[xs.length - 1]? = some a) (hb : gs[xs.length - 1]? = some b) : bndF xs = (ordF a b, 0) := by
  rw [bndF, h, h2, decide_eq_false ht]
  simp [ha, hb]
theorem termsP_bd {xs : List Int} (h : termsP xs = true) : ∀ x ∈ xs, -1000000000 ≤ x ∧ x ≤ 1000000000 := by
  intro x hx
  obtain ⟨i, hi⟩ := List.getElem?_of_mem hx
  have := inB_iff.1 ((termsP_iff.1 h).2 i x hi)
  unfold lowT at this
  split at this <;> omega
theorem incL_bd {xs : List Int} (h : termsP xs = true) (ht : ¬ xs.getD (xs.length - 1) 0 = 1000000000) : ∀ x ∈ incL xs, -1000000000 ≤ x ∧ x ≤ 1000000000 := by
  intro x hx
  have hn := (termsP_iff.1 h).1
  rcases List.mem_or_eq_of_mem_set hx with q | q
  · exact termsP_bd h x q
  · have e : xs[xs.length - 1]? = some xs[xs.length - 1] := List.getElem?_eq_getElem (by omega)
    have := termsP_bd h _ (List.getElem_mem (show xs.length - 1 < xs.length by omega))
    simp [e] at ht q
    omega
theorem incL_ok {xs : List Int} (h : termsP xs = true) : termsP (incL xs) = !decide (xs.getD (xs.length - 1) 0 = 1000000000) := by
  have hn := (termsP_iff.1 h).1
  have e : xs[xs.length - 1]? = some xs[xs.length - 1] := List.getElem?_eq_getElem (by omega)
  have hl := (termsP_iff.1 h).2 _ _ e
  have hb := inB_iff.1 hl
  have eg : xs.getD (xs.length - 1) 0 = xs[xs.length - 1] := by simp [e]
  by_cases ht : xs[xs.length - 1] = 1000000000
  · rw [eg, decide_eq_true ht]
    cases c : termsP (incL xs) with
    | false => rfl
    | true =>
      have := inB_iff.1 ((termsP_iff.1 c).2 (xs.length - 1) (xs[xs.length - 1] + 1) (by rw [incL, eg, List.getElem?_set, if_pos rfl, if_pos (by omega)]))
      omega
  · rw [eg, decide_eq_false ht]
    refine termsP_iff.2 ⟨by simp [incL]; omega, fun i x hx => ?_⟩
    rw [incL, List.getElem?_set] at hx
    split at hx
    · rename_i hi
      split at hx
      · simp only [Option.some.injEq] at hx
        subst hx hi
        rw [eg]
        exact inB_iff.2 (by omega)
      · cases hx
    · exact (termsP_iff.1 h).2 i x hx
theorem incL_len (xs : List Int) : (incL xs).length = xs.length := by simp [incL]
theorem ivalT_eq {va : Value} {xs : List Int} {b : Bool} (h : termsP xs = b) (w : World) (ha : Sl w va xs) (hl : xs.length ≤ 1048576) : Calls Tryz.prog 94 #[va] w fun e w' => e = .returned (.bool b) ∧ Bl w w' := h ▸ ivalT_any va xs w ha hl
theorem svalT_eq {va : Value} {xs : List Int} {b : Bool} (h : termsP xs = b) (w : World) (ha : Sl w va xs) (hl : xs.length ≤ 1048576) : Calls Tryz.prog 96 #[va] w fun e w' => e = .returned (.bool b) ∧ Bl w w' := h ▸ svalT_any va xs w ha hl
theorem ret_ffi {r : ((Int × Int) × (Int × Int)) × Int} {x y u v c : Int} (h : r = (((x, y), (u, v)), c)) : Ending.returned (.tuple #[.agg #[.int .i64 x, .int .i64 y], .agg #[.int .i64 u, .int .i64 v], .int .i64 c]) = .returned (.tuple #[.agg #[.int .i64 r.1.1.1, .int .i64 r.1.1.2], .agg #[.int .i64 r.1.2.1, .int .i64 r.1.2.2], .int .i64 r.2]) := by subst h; rfl
set_option maxHeartbeats 800000 in
theorem cmpFr_any (n d m e : Int) (w : World) (h1 : -4000000000000000000 ≤ n * e) (h2 : n * e ≤ 4000000000000000000) (h3 : -4000000000000000000 ≤ m * d) (h4 : m * d ≤ 4000000000000000000) :
    Calls Tryz.prog 133 #[.agg #[.int .i64 n, .int .i64 d], .agg #[.int .i64 m, .int .i64 e]] w fun r w' => r = .returned (.int .i64 (cmpF (n * e) (m * d))) ∧ Bl w w' := by
  go_enter Tryz.func133, Tryz.ntmps133
  go_wp2_with (go_at_call 156; refine (cmp_any _ _ _).mono ?_; rintro e w' ⟨rfl, rfl⟩)
  go_ret
  exact ⟨rfl, bl_alloc (bl_alloc (bl_refl _) _) _⟩
theorem cmpFr_eq {n d m e k : Int} (h : cmpF (n * e) (m * d) = k) (w : World) (h1 : -4000000000000000000 ≤ n * e) (h2 : n * e ≤ 4000000000000000000) (h3 : -4000000000000000000 ≤ m * d) (h4 : m * d ≤ 4000000000000000000) :
    Calls Tryz.prog 133 #[.agg #[.int .i64 n, .int .i64 d], .agg #[.int .i64 m, .int .i64 e]] w fun r w' => r = .returned (.int .i64 k) ∧ Bl w w' := h ▸ cmpFr_any n d m e w h1 h2 h3 h4
theorem okF_bd2 {n d : Int} (h : okF n d = true) : 1 ≤ d ∧ d ≤ 1000000000 ∧ -1000000000 ≤ n ∧ n ≤ 1000000000 := by
  obtain ⟨⟨a, b⟩, ⟨c, e⟩, _⟩ := okF_iff.1 h
  omega
theorem conv_last {xs : List Int} {fs : List (Int × Int)} (h : convL xs = some fs) (hn : 1 ≤ xs.length) : ∃ a b, fs[xs.length - 1]? = some (a, b) ∧ okF a b = true ∧ fs.length = xs.length := by
  have hl := convG_len h
  have e : fs[xs.length - 1]? = some fs[xs.length - 1] := List.getElem?_eq_getElem (by omega)
  exact ⟨_, _, e, convG_ok h _ (List.getElem_mem (by omega)), hl⟩

set_option maxRecDepth 100000 in
set_option maxHeartbeats 6400000 in
theorem boundsI_any (va : Value) (xs : List Int) (w : World) (ha : Sl w va xs) (ht : termsP xs = true) :
    Calls Tryz.prog 95 #[va] w fun e w' => e = .returned (.tuple #[.agg #[.int .i64 (bndF xs).1.1.1, .int .i64 (bndF xs).1.1.2], .agg #[.int .i64 (bndF xs).1.2.1, .int .i64 (bndF xs).1.2.2], .int .i64 (bndF xs).2]) ∧ Bl w w' := by
  obtain ⟨av, cv, rfl, hcv⟩ := ha.form'
  have hn := (termsP_iff.1 ht).1
  have HT := Lib.hid ht
  have HA := Lib.hid ha
  clear ha ht
  go_enter Tryz.func95, Tryz.ntmps95
  go_wp2_with fail
  refine (clone_any _ xs _ (HA.out.below (bl_alloc (bl_alloc (bl_refl _) _) _)) (by omega)).mono ?_
  rintro e w1 ⟨ya, yc, rfl, HO, hb1⟩
  have B1 : Bl w w1 := bl_call (bl_alloc (bl_alloc (bl_refl _) _) _) hb1
  have xA_1 : Bx w1 (w.heap.size) #[.int .i64 (0), .int .i64 (0)] := ((Bx.new (b := w.heap.size) _ #[.int .i64 (0), .int .i64 (0)] 45 (by first | rfl | simp)).alloc _).below hb1
  have xB_1 : Bx w1 (w.heap.size + 1) #[.int .i64 (0), .int .i64 (0)] := (Bx.new (b := w.heap.size + 1) _ #[.int .i64 (0), .int .i64 (0)] 45 (by first | rfl | simp)).below hb1
  obtain ⟨cA_1, fA_1, zA_1⟩ := xA_1.out
  obtain ⟨cB_1, fB_1, zB_1⟩ := xB_1.out
  obtain ⟨q, rfl, hq1, hq2⟩ := HO.addr (by omega)
  obtain ⟨y, hy, cy, fy, ry⟩ := HO.cellAt (j := xs.length - 1) (by omega)
  have hyb := termsP_bd HT.out y (List.mem_of_getElem? hy)
  have hyg : xs.getD (xs.length - 1) 0 = y := by simp [hy]
  have HST := Lib.hid (HO.stored (xs.length - 1) (y + 1) (by unfold R64; omega))
  have hq3 : w.heap.size + 1 < q := by simp at hq1; omega
  have HYG := Lib.hid hyg
  have HIN := Lib.hid (show xs.set (xs.length - 1) (y + 1) = incL xs by rw [incL, hyg])
  have HVT := Lib.hid (incL_ok HT.out)
  clear hy hyg HO ry hq1
  have hi0 : (0 : Int) ≤ (xs.length : Int) - 1 := by omega
  by_cases htop : y = 1000000000
  ·
    have HTOP := Lib.hid htop
    have HV := Lib.hid (show termsP (xs.set (xs.length - 1) (y + 1)) = false by rw [HIN.out, HVT.out, HYG.out]; simp [htop])
    clear htop
    go_wp2_with fail
    refine (ivalT_eq HV.out _ HST.out.1.sl (by simp; omega)).mono ?_
    rintro e w2 ⟨rfl, hb2⟩
    have B2 : Bl w w2 := bl_call (bl_set B1 (p := ⟨q, xs.length - 1, none⟩) (by simp; omega) _) hb2
    have xA_2 : Bx w2 (w.heap.size) #[.int .i64 (0), .int .i64 (0)] := (xA_1.far (by simp; omega) _).below hb2
    have xB_2 : Bx w2 (w.heap.size + 1) #[.int .i64 (0), .int .i64 (0)] := (xB_1.far (by simp; omega) _).below hb2
    have HN := Lib.hid (show Sl w2 _ (incL xs) by have h := HST.out.1.sl.below hb2; rw [HIN.out] at h; exact h)
    clear HST cy fy cA_1 fA_1 zA_1 cB_1 fB_1 zB_1
    obtain ⟨cA_2, fA_2, zA_2⟩ := xA_2.out
    obtain ⟨cB_2, fB_2, zB_2⟩ := xB_2.out
    go_wp2
    refine bodyPost_ret (v := .tuple #[.agg #[.int .i64 0, .int .i64 0], .agg #[.int .i64 0, .int .i64 0], .int .i64 5]) (by simp only [results, Tryz.results95]; go_simp) rfl ?_
    refine ⟨ret_ffi (by rw [bndF_top (by rw [HYG.out]; exact HTOP.out)]), ?_⟩
    repeat first | (with_reducible exact B2) | (with_reducible refine bl_alloc ?_ _) | (with_reducible refine bl_drew ?_) | (with_reducible refine bl_set ?_ (by first | exact Nat.le_refl _ | (simp; done) | (simp; omega)) _)
  ·
    have HTOP := Lib.hid htop
    have HV := Lib.hid (show termsP (xs.set (xs.length - 1) (y + 1)) = true by rw [HIN.out, HVT.out, HYG.out]; simp [htop])
    clear htop
    go_wp2_with fail
    refine (ivalT_eq HV.out _ HST.out.1.sl (by simp; omega)).mono ?_
    rintro e w2 ⟨rfl, hb2⟩
    have B2 : Bl w w2 := bl_call (bl_set B1 (p := ⟨q, xs.length - 1, none⟩) (by simp; omega) _) hb2
    have xA_2 : Bx w2 (w.heap.size) #[.int .i64 (0), .int .i64 (0)] := (xA_1.far (by simp; omega) _).below hb2
    have xB_2 : Bx w2 (w.heap.size + 1) #[.int .i64 (0), .int .i64 (0)] := (xB_1.far (by simp; omega) _).below hb2
    have HN := Lib.hid (show Sl w2 _ (incL xs) by have h := HST.out.1.sl.below hb2; rw [HIN.out] at h; exact h)
    clear HST cy fy cA_1 fA_1 zA_1 cB_1 fB_1 zB_1
    obtain ⟨cA_2, fA_2, zA_2⟩ := xA_2.out
    obtain ⟨cB_2, fB_2, zB_2⟩ := xB_2.out
    go_wp2_with fail
    refine (convI_any _ xs _ (HA.out.below B2) (by omega) (termsP_bd HT.out)).mono ?_
    rintro e wr1 ⟨fa, fn, fc, rfl, HF, hbr1⟩
    have Br1 : Bl w wr1 := bl_call B2 hbr1
    have xA_r1 : Bx wr1 (w.heap.size) #[.int .i64 (0), .int .i64 (0)] := xA_2.below hbr1
    have xB_r1 : Bx wr1 (w.heap.size + 1) #[.int .i64 (0), .int .i64 (0)] := xB_2.below hbr1
    clear cA_2 fA_2 zA_2 cB_2 fB_2 zB_2
    obtain ⟨cA_r1, fA_r1, zA_r1⟩ := xA_r1.out
    obtain ⟨cB_r1, fB_r1, zB_r1⟩ := xB_r1.out
    have HF := Lib.hid HF
    go_wp2_with fail
    refine (convI_any _ (incL xs) _ (HN.out.below hbr1) (by rw [incL_len]; omega) (incL_bd HT.out (by rw [HYG.out]; exact HTOP.out))).mono ?_
    rintro e wr2 ⟨ga, gn, gc, rfl, HG, hbr2⟩
    have Br2 : Bl w wr2 := bl_call Br1 hbr2
    have xA_r2 : Bx wr2 (w.heap.size) #[.int .i64 (0), .int .i64 (0)] := xA_r1.below hbr2
    have xB_r2 : Bx wr2 (w.heap.size + 1) #[.int .i64 (0), .int .i64 (0)] := xB_r1.below hbr2
    clear cA_r1 fA_r1 zA_r1 cB_r1 fB_r1 zB_r1
    obtain ⟨cA_r2, fA_r2, zA_r2⟩ := xA_r2.out
    obtain ⟨cB_r2, fB_r2, zB_r2⟩ := xB_r2.out
    have HF := Lib.hid (HF.out.below hbr2)
    have HG := Lib.hid HG
    cases hc1 : convL xs with
    | none =>
      have HV1 := Lib.hid hc1
      clear HF
      rw [show (none : Option (List (Int × Int))).isSome = false from rfl]
      go_wp2
      refine bodyPost_ret (v := .tuple #[.agg #[.int .i64 0, .int .i64 0], .agg #[.int .i64 0, .int .i64 0], .int .i64 5]) (by simp only [results, Tryz.results95]; go_simp) rfl ?_
      refine ⟨ret_ffi (by rw [bndF_none1 HV1.out]), ?_⟩
      repeat first | (with_reducible exact Br2) | (with_reducible refine bl_alloc ?_ _) | (with_reducible refine bl_drew ?_) | (with_reducible refine bl_set ?_ (by first | exact Nat.le_refl _ | (simp; done) | (simp; omega)) _)
    | some fs =>
      cases hc2 : convL (incL xs) with
      | none =>
        have HV1 := Lib.hid hc2
        clear HF HG
        rw [show (some fs).isSome = true from rfl, show (none : Option (List (Int × Int))).isSome = false from rfl]
        go_wp2
        refine bodyPost_ret (v := .tuple #[.agg #[.int .i64 0, .int .i64 0], .agg #[.int .i64 0, .int .i64 0], .int .i64 5]) (by simp only [results, Tryz.results95]; go_simp) rfl ?_
        refine ⟨ret_ffi (by rw [bndF_none2 HV1.out]), ?_⟩
        repeat first | (with_reducible exact Br2) | (with_reducible refine bl_alloc ?_ _) | (with_reducible refine bl_drew ?_) | (with_reducible refine bl_set ?_ (by first | exact Nat.le_refl _ | (simp; done) | (simp; omega)) _)
      | some gs =>
        obtain ⟨a, b, hab, oab, lf⟩ := conv_last hc1 hn.1
        obtain ⟨c, d, hcd, ocd, lg⟩ := conv_last hc2 (by rw [incL_len]; exact hn.1)
        rw [incL_len] at hcd lg
        have HB := Lib.hid (bndF_some hc1 (by rw [HYG.out]; exact HTOP.out) hc2 hab hcd)
        have o1 := okF_bd2 oab
        have o2 := okF_bd2 ocd
        have m1 := mulb (show -1000000000 ≤ a ∧ a ≤ 1000000000 by omega) (show -1000000000 ≤ d ∧ d ≤ 1000000000 by omega)
        have m2 := mulb (show -1000000000 ≤ c ∧ c ≤ 1000000000 by omega) (show -1000000000 ≤ b ∧ b ≤ 1000000000 by omega)
        rw [hc1] at HF
        rw [hc2] at HG
        rw [show (some fs).isSome = true from rfl, show (some gs).isSome = true from rfl]
        have hF : OwnF _ _ (.slice fa fn fc) fs := HF.out
        have hG : OwnF _ _ (.slice ga gn gc) gs := HG.out
        obtain ⟨a9, c9, e9, hc9⟩ := hF.form
        simp only [Value.slice.injEq] at e9
        obtain ⟨rfl, rfl, rfl⟩ := e9
        obtain ⟨a8, c8, e8, hc8⟩ := hG.form
        simp only [Value.slice.injEq] at e8
        obtain ⟨rfl, rfl, rfl⟩ := e8
        obtain ⟨g1, o1', rfl, a', b', hab', ca, cb⟩ := hF.slF.cellAt (bl_refl _) (k := xs.length - 1) (by omega)
        rw [hab] at hab'
        simp only [Option.some.injEq, Prod.mk.injEq] at hab'
        obtain ⟨rfl, rfl⟩ := hab'
        obtain ⟨g2, o2', rfl, c', d', hcd', cc, cd⟩ := hG.slF.cellAt (bl_refl _) (k := xs.length - 1) (by omega)
        rw [hcd] at hcd'
        simp only [Option.some.injEq, Prod.mk.injEq] at hcd'
        obtain ⟨rfl, rfl⟩ := hcd'
        rw [lf, lg] at *
        clear hF hG HF HG hc1 hc2 hab hcd lf lg
        go_wp2_with fail
        have hi1 : (xs.length : Int) - 1 < (xs.length : Int) := by omega
        have hi2 : (1 : Int) ≤ (xs.length : Int) := by omega
        have hi3 : xs.length - 1 < xs.length := by omega
        have hi4 : 0 < xs.length := by omega
        have hi5 : 1 ≤ xs.length := by omega
        have W2 : ((xs.length : Int) - 1).toNat = xs.length - 1 := by omega
        have W1 : IntKind.i64.wrap ((xs.length : Int) - 1) = (xs.length : Int) - 1 := IntWalk.i64_in _ (by omega)
        go_wp2_with fail
        go_cut [10, 11] (fun s10 s11 wx => ∃ q1 q2 : Nat, s10 = .pointer (some ⟨q1, 0, none⟩) ∧ s11 = .pointer (some ⟨q2, 0, none⟩) ∧ q1 ≠ q2 ∧ wr2.heap.size ≤ q1 ∧ wr2.heap.size ≤ q2 ∧ Bx wx q1 #[.int .i64 (a), .int .i64 (b)] ∧ Bx wx q2 #[.int .i64 (c), .int .i64 (d)] ∧ Bl wr2 wx)
        case first =>
          go_region_held3 (fun w' => w'.cell? ⟨g1, o1' + (xs.length - 1) * 2, none⟩ = some (.int .i64 a) ∧ w'.cell? ⟨g1, o1' + (xs.length - 1) * 2 + 1, none⟩ = some (.int .i64 b) ∧ w'.cell? ⟨g2, o2' + (xs.length - 1) * 2, none⟩ = some (.int .i64 c) ∧ w'.cell? ⟨g2, o2' + (xs.length - 1) * 2 + 1, none⟩ = some (.int .i64 d)) (first | (simp [*]; done) | (go_simp; done) | go_keep) (fail)
          all_goals (go_wp2_with fail; go_meet)
          all_goals first | exact ⟨wr2.heap.size, wr2.heap.size + 1, rfl, rfl, by omega, Nat.le_refl _, Nat.le_succ _, ((Bx.new _ _ _ rfl).alloc _).drew, (Bx.new _ _ _ (by simp)).drew, bl_drew (bl_alloc (bl_alloc (bl_refl _) _) _)⟩ | exact ⟨wr2.heap.size + 1, wr2.heap.size, rfl, rfl, by omega, Nat.le_succ _, Nat.le_refl _, (Bx.new _ _ _ (by simp)).drew, ((Bx.new _ _ _ rfl).alloc _).drew, bl_drew (bl_alloc (bl_alloc (bl_refl _) _) _)⟩
        case rest =>
          clear W1 W2 cA_r2 fA_r2 zA_r2 cB_r2 fB_r2 zB_r2
          obtain ⟨q1, q2, rfl, rfl, hqq, hl1, hl2, xX, xY, hj⟩ := hcut
          obtain ⟨w6, rfl⟩ : ∃ x : World, x = wc := ⟨_, rfl⟩
          have B6 : Bl w w6 := bl_call Br2 hj
          have xA6 := xA_r2.below hj
          have xB6 := xB_r2.below hj
          have zA := xA_r2.out.2.2
          have zB := xB_r2.out.2.2
          have hw1 : w.heap.size ≤ q1 := by have := Br2.size; omega
          have hw2 : w.heap.size ≤ q2 := by have := Br2.size; omega
          obtain ⟨k, hk⟩ : ∃ k, cmpF (a * d) (c * b) = k := ⟨_, rfl⟩
          have HK := Lib.hid hk
          have hk1 : (c * b < a * d → 0 < k) ∧ (¬ c * b < a * d → k ≤ 0) := by rw [← hk]; unfold cmpF; split <;> (first | omega | (split <;> omega))
          clear hk
          obtain ⟨cA6, fA6, zA6⟩ := xA6.out
          obtain ⟨cB6, fB6, zB6⟩ := xB6.out
          obtain ⟨cX, fX, zX⟩ := xX.out
          obtain ⟨cY, fY, zY⟩ := xY.out
          go_wp2_with fail
          refine (cmpFr_eq HK.out _ (by omega) (by omega) (by omega) (by omega)).mono ?_
          rintro e wt1 ⟨rfl, hbt1⟩
          have Bt1 : Bl w wt1 := bl_call B6 hbt1
          have xA_t1 : Bx wt1 (w.heap.size) #[.int .i64 (0), .int .i64 (0)] := xA6.below hbt1
          have xB_t1 : Bx wt1 (w.heap.size + 1) #[.int .i64 (0), .int .i64 (0)] := xB6.below hbt1
          have xX_t1 : Bx wt1 (q1) #[.int .i64 (a), .int .i64 (b)] := xX.below hbt1
          have xY_t1 : Bx wt1 (q2) #[.int .i64 (c), .int .i64 (d)] := xY.below hbt1
          clear cA6 fA6 zA6 cB6 fB6 zB6 cX fX zX cY fY zY
          obtain ⟨cA_t1, fA_t1, zA_t1⟩ := xA_t1.out
          obtain ⟨cB_t1, fB_t1, zB_t1⟩ := xB_t1.out
          obtain ⟨cX_t1, fX_t1, zX_t1⟩ := xX_t1.out
          obtain ⟨cY_t1, fY_t1, zY_t1⟩ := xY_t1.out
          by_cases hsw : c * b < a * d
          ·
            have hk2 := hk1.1 hsw
            have HR := Lib.hid (show bndF xs = (((c, d), (a, b)), 0) by rw [HB.out, ordF, if_pos hsw])
            clear hk1 hsw
            go_wp2_with fail
            have hqq2 := Ne.symm hqq
            have vA : Bx ((((wt1.setCell ⟨q1, 0, none⟩ (.int .i64 (c))).setCell ⟨q1, 1, none⟩ (.int .i64 (d))).setCell ⟨q2, 0, none⟩ (.int .i64 (a))).setCell ⟨q2, 1, none⟩ (.int .i64 (b))) (w.heap.size) #[.int .i64 (0), .int .i64 (0)] := ((((xA_t1.far (by first | assumption | (simp; done) | (simp; omega) | (simp; assumption)) _).far (by first | assumption | (simp; done) | (simp; omega) | (simp; assumption)) _).far (by first | assumption | (simp; done) | (simp; omega) | (simp; assumption)) _).far (by first | assumption | (simp; done) | (simp; omega) | (simp; assumption)) _)
            have vB : Bx ((((wt1.setCell ⟨q1, 0, none⟩ (.int .i64 (c))).setCell ⟨q1, 1, none⟩ (.int .i64 (d))).setCell ⟨q2, 0, none⟩ (.int .i64 (a))).setCell ⟨q2, 1, none⟩ (.int .i64 (b))) (w.heap.size + 1) #[.int .i64 (0), .int .i64 (0)] := ((((xB_t1.far (by first | assumption | (simp; done) | (simp; omega) | (simp; assumption)) _).far (by first | assumption | (simp; done) | (simp; omega) | (simp; assumption)) _).far (by first | assumption | (simp; done) | (simp; omega) | (simp; assumption)) _).far (by first | assumption | (simp; done) | (simp; omega) | (simp; assumption)) _)
            have vX : Bx ((((wt1.setCell ⟨q1, 0, none⟩ (.int .i64 (c))).setCell ⟨q1, 1, none⟩ (.int .i64 (d))).setCell ⟨q2, 0, none⟩ (.int .i64 (a))).setCell ⟨q2, 1, none⟩ (.int .i64 (b))) (q1) #[.int .i64 (c), .int .i64 (d)] := ((((xX_t1.set 0 (.int .i64 (c))).set 1 (.int .i64 (d))).far (by first | assumption | (simp; done) | (simp; omega) | (simp; assumption)) _).far (by first | assumption | (simp; done) | (simp; omega) | (simp; assumption)) _)
            have vY : Bx ((((wt1.setCell ⟨q1, 0, none⟩ (.int .i64 (c))).setCell ⟨q1, 1, none⟩ (.int .i64 (d))).setCell ⟨q2, 0, none⟩ (.int .i64 (a))).setCell ⟨q2, 1, none⟩ (.int .i64 (b))) (q2) #[.int .i64 (a), .int .i64 (b)] := ((((xY_t1.far (by first | assumption | (simp; done) | (simp; omega) | (simp; assumption)) _).far (by first | assumption | (simp; done) | (simp; omega) | (simp; assumption)) _).set 0 (.int .i64 (a))).set 1 (.int .i64 (b)))
            have B7 : Bl w ((((wt1.setCell ⟨q1, 0, none⟩ (.int .i64 (c))).setCell ⟨q1, 1, none⟩ (.int .i64 (d))).setCell ⟨q2, 0, none⟩ (.int .i64 (a))).setCell ⟨q2, 1, none⟩ (.int .i64 (b))) := bl_set (bl_set (bl_set (bl_set Bt1 hw1 _) hw1 _) hw2 _) hw2 _
            clear cA_t1 fA_t1 zA_t1 cB_t1 fB_t1 zB_t1 cX_t1 fX_t1 zX_t1 cY_t1 fY_t1 zY_t1
            generalize ((((wt1.setCell ⟨q1, 0, none⟩ (.int .i64 (c))).setCell ⟨q1, 1, none⟩ (.int .i64 (d))).setCell ⟨q2, 0, none⟩ (.int .i64 (a))).setCell ⟨q2, 1, none⟩ (.int .i64 (b))) = w7 at *
            obtain ⟨cA7, fA7, zA7⟩ := vA.out
            obtain ⟨cB7, fB7, zB7⟩ := vB.out
            obtain ⟨cX7, fX7, zX7⟩ := vX.out
            obtain ⟨cY7, fY7, zY7⟩ := vY.out
            go_region
            all_goals go_wp2
            all_goals refine bodyPost_ret (v := .tuple #[.agg #[.int .i64 c, .int .i64 d], .agg #[.int .i64 a, .int .i64 b], .int .i64 0]) (by simp only [results, Tryz.results95]; go_simp) rfl ?_
            all_goals refine ⟨ret_ffi HR.out, ?_⟩
            all_goals repeat first | (with_reducible exact B7) | (with_reducible refine bl_alloc ?_ _) | (with_reducible refine bl_drew ?_) | (with_reducible refine bl_set ?_ (by first | exact Nat.le_refl _ | (simp; done) | (simp; omega)) _)
          ·
            have hk2 := hk1.2 (by omega)
            have HR := Lib.hid (show bndF xs = (((a, b), (c, d)), 0) by rw [HB.out, ordF, if_neg hsw])
            clear hk1 hsw
            go_wp2_with fail
            go_region
            all_goals go_wp2
            all_goals refine bodyPost_ret (v := .tuple #[.agg #[.int .i64 a, .int .i64 b], .agg #[.int .i64 c, .int .i64 d], .int .i64 0]) (by simp only [results, Tryz.results95]; go_simp) rfl ?_
            all_goals refine ⟨ret_ffi HR.out, ?_⟩
            all_goals repeat first | (with_reducible exact Bt1) | (with_reducible refine bl_alloc ?_ _) | (with_reducible refine bl_drew ?_) | (with_reducible refine bl_set ?_ (by first | exact Nat.le_refl _ | (simp; done) | (simp; omega)) _)

theorem ret_ffb {r : ((Int × Int) × (Int × Int)) × Int} {x y u v : Int} {b : Bool} (h : r.1 = ((x, y), (u, v))) (hb : b = decide (r.2 = 0)) : Ending.returned (.tuple #[.agg #[.int .i64 x, .int .i64 y], .agg #[.int .i64 u, .int .i64 v], .bool b]) = .returned (.tuple #[.agg #[.int .i64 r.1.1.1, .int .i64 r.1.1.2], .agg #[.int .i64 r.1.2.1, .int .i64 r.1.2.2], .bool (decide (r.2 = 0))]) := by rw [h, hb]
set_option maxRecDepth 100000 in
set_option maxHeartbeats 6400000 in
theorem boundsS_any (va : Value) (xs : List Int) (w : World) (ha : Sl w va xs) (ht : termsP xs = true) :
    Calls Tryz.prog 97 #[va] w fun e w' => e = .returned (.tuple #[.agg #[.int .i64 (bndF xs).1.1.1, .int .i64 (bndF xs).1.1.2], .agg #[.int .i64 (bndF xs).1.2.1, .int .i64 (bndF xs).1.2.2], .bool (decide ((bndF xs).2 = 0))]) ∧ Bl w w' := by
  obtain ⟨av, cv, rfl, hcv⟩ := ha.form'
  have hn := (termsP_iff.1 ht).1
  have HT := Lib.hid ht
  have HA := Lib.hid ha
  clear ha ht
  have hi0 : (0 : Int) ≤ (xs.length : Int) - 1 := by omega
  go_enter Tryz.func97, Tryz.ntmps97
  go_wp2_with fail
  refine (convS_any _ xs _ (HA.out.below (bl_alloc (bl_alloc (bl_refl _) _) _)) (by omega) (termsP_bd HT.out)).mono ?_
  rintro e w1 ⟨fa, fn, fc, rfl, HF, hb1⟩
  have B1 : Bl w w1 := bl_call (bl_alloc (bl_alloc (bl_refl _) _) _) hb1
  have xA_1 : Bx w1 (w.heap.size) #[.int .i64 (0), .int .i64 (0)] := ((Bx.new (b := w.heap.size) _ #[.int .i64 (0), .int .i64 (0)] 45 (by first | rfl | simp)).alloc _).below hb1
  have xB_1 : Bx w1 (w.heap.size + 1) #[.int .i64 (0), .int .i64 (0)] := (Bx.new (b := w.heap.size + 1) _ #[.int .i64 (0), .int .i64 (0)] 45 (by first | rfl | simp)).below hb1
  obtain ⟨cA_1, fA_1, zA_1⟩ := xA_1.out
  obtain ⟨cB_1, fB_1, zB_1⟩ := xB_1.out
  have HF := Lib.hid HF
  cases hc1 : convL xs with
  | none =>
    have HV1 := Lib.hid hc1
    clear HF
    rw [show (none : Option (List (Int × Int))).isSome = false from rfl]
    go_wp2
    refine bodyPost_ret (v := .tuple #[.agg #[.int .i64 0, .int .i64 0], .agg #[.int .i64 0, .int .i64 0], .bool false]) (by simp only [results, Tryz.results97]; go_simp) rfl ?_
    have hr := bndF_none1 HV1.out
    refine ⟨ret_ffb (by rw [hr]) (by rw [hr]; rfl), ?_⟩
    repeat first | (with_reducible exact B1) | (with_reducible refine bl_alloc ?_ _) | (with_reducible refine bl_drew ?_) | (with_reducible refine bl_set ?_ (by first | exact Nat.le_refl _ | (simp; done) | (simp; omega)) _)
  | some fs =>
    obtain ⟨a, b, hab, oab, lf⟩ := conv_last hc1 hn.1
    have HV1 := Lib.hid hc1
    rw [hc1] at HF
    rw [show (some fs).isSome = true from rfl]
    have hF : OwnF _ _ (.slice fa fn fc) fs := HF.out
    obtain ⟨a9, c9, e9, hc9⟩ := hF.form
    simp only [Value.slice.injEq] at e9
    obtain ⟨rfl, rfl, rfl⟩ := e9
    obtain ⟨g1, o1', rfl, a', b', hab', ca, cb⟩ := hF.slF.cellAt (bl_refl _) (k := xs.length - 1) (by omega)
    rw [hab] at hab'
    simp only [Option.some.injEq, Prod.mk.injEq] at hab'
    obtain ⟨rfl, rfl⟩ := hab'
    rw [lf] at *
    have HAB := Lib.hid hab
    have o1 := okF_bd2 oab
    clear hF HF hc1 hab lf
    have hi1 : (xs.length : Int) - 1 < (xs.length : Int) := by omega
    go_wp2_with fail
    refine (own_any _ xs _ (HA.out.below (bl_alloc B1 _)) (by omega)).mono ?_
    rintro e w2 ⟨ya, yc, rfl, HO, hb2⟩
    have B2 : Bl w w2 := bl_call (bl_alloc B1 _) hb2
    have xA_2 : Bx w2 (w.heap.size) #[.int .i64 (0), .int .i64 (0)] := (xA_1.alloc _).below hb2
    have xB_2 : Bx w2 (w.heap.size + 1) #[.int .i64 (0), .int .i64 (0)] := (xB_1.alloc _).below hb2
    have xX_2 : Bx w2 (w1.heap.size) #[.int .i64 (a), .int .i64 (b)] := (Bx.new (b := w1.heap.size) _ #[.int .i64 (a), .int .i64 (b)] 45 (by first | rfl | simp)).below hb2
    clear cA_1 fA_1 zA_1 cB_1 fB_1 zB_1
    obtain ⟨cA_2, fA_2, zA_2⟩ := xA_2.out
    obtain ⟨cB_2, fB_2, zB_2⟩ := xB_2.out
    obtain ⟨cX_2, fX_2, zX_2⟩ := xX_2.out
    obtain ⟨q, rfl, hq1, hq2⟩ := HO.addr (by omega)
    obtain ⟨y, hy, cy, fy, ry⟩ := HO.cellAt (j := xs.length - 1) (by omega)
    have hyb := termsP_bd HT.out y (List.mem_of_getElem? hy)
    have hyg : xs.getD (xs.length - 1) 0 = y := by simp [hy]
    have HST := Lib.hid (HO.stored (xs.length - 1) (y + 1) (by unfold R64; omega))
    have hs1 := B1.size
    have hq3 : w.heap.size + 1 < q ∧ w1.heap.size < q := by have := hb1.size; simp at hq1 this; omega
    have HYG := Lib.hid hyg
    have HIN := Lib.hid (show xs.set (xs.length - 1) (y + 1) = incL xs by rw [incL, hyg])
    clear hy hyg HO ry hq1
    by_cases htop : y = 1000000000
    ·
      have HTOP := Lib.hid htop
      have hb : (y == 1000000000) = true := by simp [htop]
      clear htop
      go_wp2
      refine bodyPost_ret (v := .tuple #[.agg #[.int .i64 0, .int .i64 0], .agg #[.int .i64 0, .int .i64 0], .bool false]) (by simp only [results, Tryz.results97]; go_simp) rfl ?_
      have hr := bndF_top (xs := xs) (by rw [HYG.out]; exact HTOP.out)
      refine ⟨ret_ffb (by rw [hr]) (by rw [hr]; rfl), ?_⟩
      repeat first | (with_reducible exact B2) | (with_reducible refine bl_alloc ?_ _) | (with_reducible refine bl_drew ?_) | (with_reducible refine bl_set ?_ (by first | exact Nat.le_refl _ | (simp; done) | (simp; omega)) _)
    ·
      have HTOP := Lib.hid htop
      have hb : (y == 1000000000) = false := by simp [htop]
      clear htop
      go_wp2_with fail
      refine (convS_any _ (incL xs) _ (by have h := HST.out.1.sl; rw [HIN.out] at h; exact h) (by rw [incL_len]; omega) (incL_bd HT.out (by rw [HYG.out]; exact HTOP.out))).mono ?_
      rintro e w3 ⟨ga, gn, gc, rfl, HG, hb3⟩
      have B3 : Bl w w3 := bl_call (bl_set B2 (p := ⟨q, xs.length - 1, none⟩) (by simp; omega) _) hb3
      have xA_3 : Bx w3 (w.heap.size) #[.int .i64 (0), .int .i64 (0)] := (xA_2.far (by simp; omega) _).below hb3
      have xB_3 : Bx w3 (w.heap.size + 1) #[.int .i64 (0), .int .i64 (0)] := (xB_2.far (by simp; omega) _).below hb3
      have xX_3 : Bx w3 (w1.heap.size) #[.int .i64 (a), .int .i64 (b)] := (xX_2.far (by simp; omega) _).below hb3
      have HG := Lib.hid HG
      clear HST cy fy ca cb cA_2 fA_2 zA_2 cB_2 fB_2 zB_2 cX_2 fX_2 zX_2
      obtain ⟨cA_3, fA_3, zA_3⟩ := xA_3.out
      obtain ⟨cB_3, fB_3, zB_3⟩ := xB_3.out
      obtain ⟨cX_3, fX_3, zX_3⟩ := xX_3.out
      cases hc2 : convL (incL xs) with
      | none =>
        have HV2 := Lib.hid hc2
        clear HG
        rw [show (none : Option (List (Int × Int))).isSome = false from rfl]
        go_wp2
        refine bodyPost_ret (v := .tuple #[.agg #[.int .i64 0, .int .i64 0], .agg #[.int .i64 0, .int .i64 0], .bool false]) (by simp only [results, Tryz.results97]; go_simp) rfl ?_
        have hr := bndF_none2 HV2.out
        refine ⟨ret_ffb (by rw [hr]) (by rw [hr]; rfl), ?_⟩
        repeat first | (with_reducible exact B3) | (with_reducible refine bl_alloc ?_ _) | (with_reducible refine bl_drew ?_) | (with_reducible refine bl_set ?_ (by first | exact Nat.le_refl _ | (simp; done) | (simp; omega)) _)
      | some gs =>
        obtain ⟨c, d, hcd, ocd, lg⟩ := conv_last hc2 (by rw [incL_len]; exact hn.1)
        rw [incL_len] at hcd lg
        have HB := Lib.hid (bndF_some HV1.out (by rw [HYG.out]; exact HTOP.out) hc2 HAB.out hcd)
        have o2 := okF_bd2 ocd
        have m1 := mulb (show -1000000000 ≤ a ∧ a ≤ 1000000000 by omega) (show -1000000000 ≤ d ∧ d ≤ 1000000000 by omega)
        have m2 := mulb (show -1000000000 ≤ c ∧ c ≤ 1000000000 by omega) (show -1000000000 ≤ b ∧ b ≤ 1000000000 by omega)
        rw [hc2] at HG
        rw [show (some gs).isSome = true from rfl]
        have hG : OwnF _ _ (.slice ga gn gc) gs := HG.out
        obtain ⟨a8, c8, e8, hc8⟩ := hG.form
        simp only [Value.slice.injEq] at e8
        obtain ⟨rfl, rfl, rfl⟩ := e8
        obtain ⟨g2, o2', rfl, c', d', hcd', cc, cd⟩ := hG.slF.cellAt (bl_refl _) (k := xs.length - 1) (by omega)
        rw [hcd] at hcd'
        simp only [Option.some.injEq, Prod.mk.injEq] at hcd'
        obtain ⟨rfl, rfl⟩ := hcd'
        rw [lg] at *
        clear hG HG hc2 hcd lg
        rcases Int.lt_trichotomy (c * b) (a * d) with hsw | hsw | hsw
        ·
          have HR := Lib.hid (show bndF xs = (((c, d), (a, b)), 0) by rw [HB.out, ordF, if_pos hsw])
          have HSW := Lib.hid hsw
          clear hsw
          have y1 := xB_1.out.2.2
          have y2 := xX_3.out.2.2
          have n1 : w.heap.size ≠ w1.heap.size ∧ w1.heap.size ≠ w.heap.size ∧ w.heap.size + 1 ≠ w1.heap.size ∧ w1.heap.size ≠ w.heap.size + 1 := by omega
          have n2 : w.heap.size ≠ w3.heap.size ∧ w3.heap.size ≠ w.heap.size ∧ w.heap.size + 1 ≠ w3.heap.size ∧ w3.heap.size ≠ w.heap.size + 1 := by omega
          obtain ⟨n11, n12, n13, n14⟩ := n1
          obtain ⟨n21, n22, n23, n24⟩ := n2
          go_wp2_with fail
          refine (less_lt c d a b _ (by omega) (by omega) (by omega) (by omega) HSW.out).mono ?_
          rintro e wr1 ⟨rfl, hbr1⟩
          have Br1 : Bl w wr1 := bl_call (bl_alloc B3 _) hbr1
          have xA_r1 : Bx wr1 (w.heap.size) #[.int .i64 (0), .int .i64 (0)] := (xA_3.alloc _).below hbr1
          have xB_r1 : Bx wr1 (w.heap.size + 1) #[.int .i64 (0), .int .i64 (0)] := (xB_3.alloc _).below hbr1
          have xX_r1 : Bx wr1 (w1.heap.size) #[.int .i64 (a), .int .i64 (b)] := (xX_3.alloc _).below hbr1
          have xY_r1 : Bx wr1 (w3.heap.size) #[.int .i64 (c), .int .i64 (d)] := (Bx.new (b := w3.heap.size) _ #[.int .i64 (c), .int .i64 (d)] 45 (by first | rfl | simp)).below hbr1
          clear cA_3 fA_3 zA_3 cB_3 fB_3 zB_3 cX_3 fX_3 zX_3
          obtain ⟨cA_r1, fA_r1, zA_r1⟩ := xA_r1.out
          obtain ⟨cB_r1, fB_r1, zB_r1⟩ := xB_r1.out
          obtain ⟨cX_r1, fX_r1, zX_r1⟩ := xX_r1.out
          obtain ⟨cY_r1, fY_r1, zY_r1⟩ := xY_r1.out
          go_wp2_with fail
          go_region
          all_goals go_wp2
          all_goals refine bodyPost_ret (v := .tuple #[.agg #[.int .i64 c, .int .i64 d], .agg #[.int .i64 a, .int .i64 b], .bool true]) (by simp only [results, Tryz.results97]; go_simp) rfl ?_
          all_goals refine ⟨ret_ffb (by rw [HR.out]) (by rw [HR.out]; rfl), ?_⟩
          all_goals repeat first | (with_reducible exact Br1) | (with_reducible refine bl_alloc ?_ _) | (with_reducible refine bl_drew ?_) | (with_reducible refine bl_set ?_ (by first | exact Nat.le_refl _ | (simp; done) | (simp; omega)) _)
        ·
          have HR := Lib.hid (show bndF xs = (((a, b), (c, d)), 0) by rw [HB.out, ordF, if_neg (by simp; omega)])
          have HSW := Lib.hid hsw
          clear hsw
          have y1 := xB_1.out.2.2
          have y2 := xX_3.out.2.2
          have n1 : w.heap.size ≠ w1.heap.size ∧ w1.heap.size ≠ w.heap.size ∧ w.heap.size + 1 ≠ w1.heap.size ∧ w1.heap.size ≠ w.heap.size + 1 := by omega
          have n2 : w.heap.size ≠ w3.heap.size ∧ w3.heap.size ≠ w.heap.size ∧ w.heap.size + 1 ≠ w3.heap.size ∧ w3.heap.size ≠ w.heap.size + 1 := by omega
          obtain ⟨n11, n12, n13, n14⟩ := n1
          obtain ⟨n21, n22, n23, n24⟩ := n2
          go_wp2_with fail
          refine (less_eq c d a b _ (by omega) (by omega) (by omega) (by omega) HSW.out).mono ?_
          rintro e wr1 ⟨rfl, hbr1⟩
          have Br1 : Bl w wr1 := bl_call (bl_alloc B3 _) hbr1
          have xA_r1 : Bx wr1 (w.heap.size) #[.int .i64 (0), .int .i64 (0)] := (xA_3.alloc _).below hbr1
          have xB_r1 : Bx wr1 (w.heap.size + 1) #[.int .i64 (0), .int .i64 (0)] := (xB_3.alloc _).below hbr1
          have xX_r1 : Bx wr1 (w1.heap.size) #[.int .i64 (a), .int .i64 (b)] := (xX_3.alloc _).below hbr1
          have xY_r1 : Bx wr1 (w3.heap.size) #[.int .i64 (c), .int .i64 (d)] := (Bx.new (b := w3.heap.size) _ #[.int .i64 (c), .int .i64 (d)] 45 (by first | rfl | simp)).below hbr1
          clear cA_3 fA_3 zA_3 cB_3 fB_3 zB_3 cX_3 fX_3 zX_3
          obtain ⟨cA_r1, fA_r1, zA_r1⟩ := xA_r1.out
          obtain ⟨cB_r1, fB_r1, zB_r1⟩ := xB_r1.out
          obtain ⟨cX_r1, fX_r1, zX_r1⟩ := xX_r1.out
          obtain ⟨cY_r1, fY_r1, zY_r1⟩ := xY_r1.out
          go_wp2_with fail
          go_region
          all_goals go_wp2
          all_goals refine bodyPost_ret (v := .tuple #[.agg #[.int .i64 a, .int .i64 b], .agg #[.int .i64 c, .int .i64 d], .bool true]) (by simp only [results, Tryz.results97]; go_simp) rfl ?_
          all_goals refine ⟨ret_ffb (by rw [HR.out]) (by rw [HR.out]; rfl), ?_⟩
          all_goals repeat first | (with_reducible exact Br1) | (with_reducible refine bl_alloc ?_ _) | (with_reducible refine bl_drew ?_) | (with_reducible refine bl_set ?_ (by first | exact Nat.le_refl _ | (simp; done) | (simp; omega)) _)
        ·
          have HR := Lib.hid (show bndF xs = (((a, b), (c, d)), 0) by rw [HB.out, ordF, if_neg (by simp; omega)])
          have HSW := Lib.hid hsw
          clear hsw
          have y1 := xB_1.out.2.2
          have y2 := xX_3.out.2.2
          have n1 : w.heap.size ≠ w1.heap.size ∧ w1.heap.size ≠ w.heap.size ∧ w.heap.size + 1 ≠ w1.heap.size ∧ w1.heap.size ≠ w.heap.size + 1 := by omega
          have n2 : w.heap.size ≠ w3.heap.size ∧ w3.heap.size ≠ w.heap.size ∧ w.heap.size + 1 ≠ w3.heap.size ∧ w3.heap.size ≠ w.heap.size + 1 := by omega
          obtain ⟨n11, n12, n13, n14⟩ := n1
          obtain ⟨n21, n22, n23, n24⟩ := n2
          go_wp2_with fail
          refine (less_gt c d a b _ (by omega) (by omega) (by omega) (by omega) HSW.out).mono ?_
          rintro e wr1 ⟨rfl, hbr1⟩
          have Br1 : Bl w wr1 := bl_call (bl_alloc B3 _) hbr1
          have xA_r1 : Bx wr1 (w.heap.size) #[.int .i64 (0), .int .i64 (0)] := (xA_3.alloc _).below hbr1
          have xB_r1 : Bx wr1 (w.heap.size + 1) #[.int .i64 (0), .int .i64 (0)] := (xB_3.alloc _).below hbr1
          have xX_r1 : Bx wr1 (w1.heap.size) #[.int .i64 (a), .int .i64 (b)] := (xX_3.alloc _).below hbr1
          have xY_r1 : Bx wr1 (w3.heap.size) #[.int .i64 (c), .int .i64 (d)] := (Bx.new (b := w3.heap.size) _ #[.int .i64 (c), .int .i64 (d)] 45 (by first | rfl | simp)).below hbr1
          clear cA_3 fA_3 zA_3 cB_3 fB_3 zB_3 cX_3 fX_3 zX_3
          obtain ⟨cA_r1, fA_r1, zA_r1⟩ := xA_r1.out
          obtain ⟨cB_r1, fB_r1, zB_r1⟩ := xB_r1.out
          obtain ⟨cX_r1, fX_r1, zX_r1⟩ := xX_r1.out
          obtain ⟨cY_r1, fY_r1, zY_r1⟩ := xY_r1.out
          go_wp2_with fail
          go_region
          all_goals go_wp2
          all_goals refine bodyPost_ret (v := .tuple #[.agg #[.int .i64 a, .int .i64 b], .agg #[.int .i64 c, .int .i64 d], .bool true]) (by simp only [results, Tryz.results97]; go_simp) rfl ?_
          all_goals refine ⟨ret_ffb (by rw [HR.out]) (by rw [HR.out]; rfl), ?_⟩
          all_goals repeat first | (with_reducible exact Br1) | (with_reducible refine bl_alloc ?_ _) | (with_reducible refine bl_drew ?_) | (with_reducible refine bl_set ?_ (by first | exact Nat.le_refl _ | (simp; done) | (simp; omega)) _)

end Go.Proofs.YtndblondleclpaaGreatDoor

/- BoundsOfTerms: the program and the reference give the same. Each theorem names its conditions. -/
namespace Go.Proofs.YtndblondleclpaaGreatDoor
open Go.RowKit
set_option linter.unusedVariables false
set_option linter.unusedSimpArgs false

noncomputable def bndTF (xs : List Int) : (Int × Int) × (Int × Int) × Int := if termsP xs then ((bndF xs).1.1, (bndF xs).1.2, (bndF xs).2) else ((0, 0), (0, 0), 1)
theorem ret_ff3 {r : (Int × Int) × (Int × Int) × Int} {x y u v c : Int} (h : r = ((x, y), (u, v), c)) : Ending.returned (.tuple #[.agg #[.int .i64 x, .int .i64 y], .agg #[.int .i64 u, .int .i64 v], .int .i64 c]) = .returned (.tuple #[.agg #[.int .i64 r.1.1, .int .i64 r.1.2], .agg #[.int .i64 r.2.1.1, .int .i64 r.2.1.2], .int .i64 r.2.2]) := by subst h; rfl
theorem bndF_code (xs : List Int) : (bndF xs).2 = 0 ∨ bndF xs = (((0, 0), (0, 0)), 5) := by
  unfold bndF
  split
  · exact .inl rfl
  · exact .inr rfl

set_option maxRecDepth 100000 in
set_option maxHeartbeats 3200000 in
theorem impl_BoundsOfTerms (va : Value) (xs : List Int) (w : World) (ha : Sl w va xs) (hl : xs.length ≤ 1048576) :
    Calls Tryz.prog 34 #[va] w fun e w' => e = .returned (.tuple #[.agg #[.int .i64 (bndTF xs).1.1, .int .i64 (bndTF xs).1.2], .agg #[.int .i64 (bndTF xs).2.1.1, .int .i64 (bndTF xs).2.1.2], .int .i64 (bndTF xs).2.2]) ∧ Bl w w' := by
  cases e1 : termsP xs with
  | false =>
    have HR := Lib.hid (show bndTF xs = ((0, 0), (0, 0), 1) by simp [bndTF, e1])
    have E1 := Lib.hid e1
    clear e1
    go_enter Tryz.func34, Tryz.ntmps34
    go_wp2_with fail
    refine (ivalT_eq E1.out _ (ha.below (bl_alloc (bl_alloc (bl_refl _) _) _)) hl).mono ?_
    rintro e w1 ⟨rfl, hb1⟩
    have B1 : Bl w w1 := bl_call (bl_alloc (bl_alloc (bl_refl _) _) _) hb1
    have xA_1 : Bx w1 (w.heap.size) #[.int .i64 (0), .int .i64 (0)] := ((Bx.new (b := w.heap.size) _ #[.int .i64 (0), .int .i64 (0)] 45 (by first | rfl | simp)).alloc _).below hb1
    have xB_1 : Bx w1 (w.heap.size + 1) #[.int .i64 (0), .int .i64 (0)] := (Bx.new (b := w.heap.size + 1) _ #[.int .i64 (0), .int .i64 (0)] 45 (by first | rfl | simp)).below hb1
    obtain ⟨cA_1, fA_1, zA_1⟩ := xA_1.out
    obtain ⟨cB_1, fB_1, zB_1⟩ := xB_1.out
    go_wp2
    refine bodyPost_ret (v := .tuple #[.agg #[.int .i64 0, .int .i64 0], .agg #[.int .i64 0, .int .i64 0], .int .i64 1]) (by simp only [results, Tryz.results34]; go_simp) rfl ?_
    refine ⟨ret_ff3 (by rw [HR.out]), ?_⟩
    repeat first | (with_reducible exact B1) | (with_reducible refine bl_alloc ?_ _) | (with_reducible refine bl_drew ?_) | (with_reducible refine bl_set ?_ (by first | exact Nat.le_refl _ | (simp; done) | (simp; omega)) _)
  | true =>
    have HR := Lib.hid (show bndTF xs = ((bndF xs).1.1, (bndF xs).1.2, (bndF xs).2) by simp [bndTF, e1])
    have E1 := Lib.hid e1
    clear e1
    go_enter Tryz.func34, Tryz.ntmps34
    go_wp2_with fail
    refine (ivalT_eq E1.out _ (ha.below (bl_alloc (bl_alloc (bl_refl _) _) _)) hl).mono ?_
    rintro e w1 ⟨rfl, hb1⟩
    have B1 : Bl w w1 := bl_call (bl_alloc (bl_alloc (bl_refl _) _) _) hb1
    have xA_1 : Bx w1 (w.heap.size) #[.int .i64 (0), .int .i64 (0)] := ((Bx.new (b := w.heap.size) _ #[.int .i64 (0), .int .i64 (0)] 45 (by first | rfl | simp)).alloc _).below hb1
    have xB_1 : Bx w1 (w.heap.size + 1) #[.int .i64 (0), .int .i64 (0)] := (Bx.new (b := w.heap.size + 1) _ #[.int .i64 (0), .int .i64 (0)] 45 (by first | rfl | simp)).below hb1
    obtain ⟨cA_1, fA_1, zA_1⟩ := xA_1.out
    obtain ⟨cB_1, fB_1, zB_1⟩ := xB_1.out
    go_wp2_with fail
    refine (boundsI_any va xs _ (ha.below B1) E1.out).mono ?_
    rintro e w2 ⟨rfl, hb2⟩
    have B2 : Bl w w2 := bl_call B1 hb2
    have xA_2 : Bx w2 (w.heap.size) #[.int .i64 (0), .int .i64 (0)] := xA_1.below hb2
    have xB_2 : Bx w2 (w.heap.size + 1) #[.int .i64 (0), .int .i64 (0)] := xB_1.below hb2
    clear cA_1 fA_1 zA_1 cB_1 fB_1 zB_1
    obtain ⟨cA_2, fA_2, zA_2⟩ := xA_2.out
    obtain ⟨cB_2, fB_2, zB_2⟩ := xB_2.out
    generalize hb : bndF xs = bv at *
    obtain ⟨⟨⟨a, b⟩, ⟨c, d⟩⟩, k⟩ := bv
    clear hb
    go_wp2
    refine bodyPost_ret (v := .tuple #[.agg #[.int .i64 a, .int .i64 b], .agg #[.int .i64 c, .int .i64 d], .int .i64 k]) (by simp only [results, Tryz.results34]; go_simp) rfl ?_
    refine ⟨ret_ff3 (by rw [HR.out]), ?_⟩
    repeat first | (with_reducible exact B2) | (with_reducible refine bl_alloc ?_ _) | (with_reducible refine bl_drew ?_) | (with_reducible refine bl_set ?_ (by first | exact Nat.le_refl _ | (simp; done) | (simp; omega)) _)

set_option maxRecDepth 100000 in
set_option maxHeartbeats 3200000 in
theorem spec_BoundsOfTerms (va : Value) (xs : List Int) (w : World) (ha : Sl w va xs) (hl : xs.length ≤ 1048576) :
    Calls Tryz.prog 35 #[va] w fun e w' => e = .returned (.tuple #[.agg #[.int .i64 (bndTF xs).1.1, .int .i64 (bndTF xs).1.2], .agg #[.int .i64 (bndTF xs).2.1.1, .int .i64 (bndTF xs).2.1.2], .int .i64 (bndTF xs).2.2]) ∧ Bl w w' := by
  cases e1 : termsP xs with
  | false =>
    have HR := Lib.hid (show bndTF xs = ((0, 0), (0, 0), 1) by simp [bndTF, e1])
    have E1 := Lib.hid e1
    clear e1
    go_enter Tryz.func35, Tryz.ntmps35
    go_wp2_with fail
    refine (svalT_eq E1.out _ (ha.below (bl_alloc (bl_alloc (bl_refl _) _) _)) hl).mono ?_
    rintro e w1 ⟨rfl, hb1⟩
    have B1 : Bl w w1 := bl_call (bl_alloc (bl_alloc (bl_refl _) _) _) hb1
    have xA_1 : Bx w1 (w.heap.size) #[.int .i64 (0), .int .i64 (0)] := ((Bx.new (b := w.heap.size) _ #[.int .i64 (0), .int .i64 (0)] 45 (by first | rfl | simp)).alloc _).below hb1
    have xB_1 : Bx w1 (w.heap.size + 1) #[.int .i64 (0), .int .i64 (0)] := (Bx.new (b := w.heap.size + 1) _ #[.int .i64 (0), .int .i64 (0)] 45 (by first | rfl | simp)).below hb1
    obtain ⟨cA_1, fA_1, zA_1⟩ := xA_1.out
    obtain ⟨cB_1, fB_1, zB_1⟩ := xB_1.out
    go_wp2
    refine bodyPost_ret (v := .tuple #[.agg #[.int .i64 0, .int .i64 0], .agg #[.int .i64 0, .int .i64 0], .int .i64 1]) (by simp only [results, Tryz.results35]; go_simp) rfl ?_
    refine ⟨ret_ff3 (by rw [HR.out]), ?_⟩
    repeat first | (with_reducible exact B1) | (with_reducible refine bl_alloc ?_ _) | (with_reducible refine bl_drew ?_) | (with_reducible refine bl_set ?_ (by first | exact Nat.le_refl _ | (simp; done) | (simp; omega)) _)
  | true =>
    have HR := Lib.hid (show bndTF xs = ((bndF xs).1.1, (bndF xs).1.2, (bndF xs).2) by simp [bndTF, e1])
    have E1 := Lib.hid e1
    clear e1
    go_enter Tryz.func35, Tryz.ntmps35
    go_wp2_with fail
    refine (svalT_eq E1.out _ (ha.below (bl_alloc (bl_alloc (bl_refl _) _) _)) hl).mono ?_
    rintro e w1 ⟨rfl, hb1⟩
    have B1 : Bl w w1 := bl_call (bl_alloc (bl_alloc (bl_refl _) _) _) hb1
    have xA_1 : Bx w1 (w.heap.size) #[.int .i64 (0), .int .i64 (0)] := ((Bx.new (b := w.heap.size) _ #[.int .i64 (0), .int .i64 (0)] 45 (by first | rfl | simp)).alloc _).below hb1
    have xB_1 : Bx w1 (w.heap.size + 1) #[.int .i64 (0), .int .i64 (0)] := (Bx.new (b := w.heap.size + 1) _ #[.int .i64 (0), .int .i64 (0)] 45 (by first | rfl | simp)).below hb1
    obtain ⟨cA_1, fA_1, zA_1⟩ := xA_1.out
    obtain ⟨cB_1, fB_1, zB_1⟩ := xB_1.out
    go_wp2_with fail
    refine (boundsS_any va xs _ (ha.below B1) E1.out).mono ?_
    rintro e w2 ⟨rfl, hb2⟩
    have B2 : Bl w w2 := bl_call B1 hb2
    have xA_2 : Bx w2 (w.heap.size) #[.int .i64 (0), .int .i64 (0)] := xA_1.below hb2
    have xB_2 : Bx w2 (w.heap.size + 1) #[.int .i64 (0), .int .i64 (0)] := xB_1.below hb2
    clear cA_1 fA_1 zA_1 cB_1 fB_1 zB_1
    obtain ⟨cA_2, fA_2, zA_2⟩ := xA_2.out
    obtain ⟨cB_2, fB_2, zB_2⟩ := xB_2.out
    have HC := bndF_code xs
    generalize hb : bndF xs = bv at *
    obtain ⟨⟨⟨a, b⟩, ⟨c, d⟩⟩, k⟩ := bv
    clear hb
    simp only [] at HC
    by_cases hk : k = 0
    ·
      subst hk
      clear HC
      rw [show decide ((0 : Int) = 0) = true from rfl]
      go_wp2_with fail
      have y1 := xB_2.out.2.2
      have n1 : w.heap.size ≠ w2.heap.size ∧ w2.heap.size ≠ w.heap.size ∧ w.heap.size + 1 ≠ w2.heap.size ∧ w2.heap.size ≠ w.heap.size + 1 := by omega
      have n2 : w.heap.size ≠ w2.heap.size + 1 ∧ w2.heap.size + 1 ≠ w.heap.size ∧ w.heap.size + 1 ≠ w2.heap.size + 1 ∧ w2.heap.size + 1 ≠ w.heap.size + 1 := by omega
      obtain ⟨n11, n12, n13, n14⟩ := n1
      obtain ⟨n21, n22, n23, n24⟩ := n2
      go_region
      all_goals go_wp2
      all_goals refine bodyPost_ret (v := .tuple #[.agg #[.int .i64 a, .int .i64 b], .agg #[.int .i64 c, .int .i64 d], .int .i64 0]) (by simp only [results, Tryz.results35]; go_simp) rfl ?_
      all_goals refine ⟨ret_ff3 (by rw [HR.out]), ?_⟩
      all_goals repeat first | (with_reducible exact B2) | (with_reducible refine bl_alloc ?_ _) | (with_reducible refine bl_drew ?_) | (with_reducible refine bl_set ?_ (by first | exact Nat.le_refl _ | (simp; done) | (simp; omega)) _)
    ·
      have h5 : (((a, b), (c, d)), k) = (((0, 0), (0, 0)), (5 : Int)) := HC.resolve_left hk
      simp only [Prod.mk.injEq] at h5
      obtain ⟨⟨⟨rfl, rfl⟩, ⟨rfl, rfl⟩⟩, rfl⟩ := h5
      clear HC hk
      rw [show decide ((5 : Int) = 0) = false from rfl]
      go_wp2
      refine bodyPost_ret (v := .tuple #[.agg #[.int .i64 0, .int .i64 0], .agg #[.int .i64 0, .int .i64 0], .int .i64 5]) (by simp only [results, Tryz.results35]; go_simp) rfl ?_
      refine ⟨ret_ff3 (by rw [HR.out]), ?_⟩
      repeat first | (with_reducible exact B2) | (with_reducible refine bl_alloc ?_ _) | (with_reducible refine bl_drew ?_) | (with_reducible refine bl_set ?_ (by first | exact Nat.le_refl _ | (simp; done) | (simp; omega)) _)

end Go.Proofs.YtndblondleclpaaGreatDoor

