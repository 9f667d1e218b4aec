/- Some of the texts of this claim, joined in one file: CmpE, Conv. -/
import Derived.Test.YtgkelemfbmmgnaaMTp27
import Derived.Test.YtgkelemfbmmgnaaMTp8
import Derived.Test.YtgkelemfbmmgnaaMTp2
import Derived.Test.YtgkelemfbmmgnaaMTp6
import Derived.Test.YtgkelemfbmmgnaaMTp3
/- CompareErrors of the reference. No condition. -/
namespace Go.Proofs.Ytgkelemfbmmgnaa
open Go.RowKit
set_option linter.unusedVariables false
set_option linter.unusedSimpArgs false

/-- The first results of a comparison of errors, and its code. -/
def compErrF (n d a b p q : Int) : Int × Int :=
  if bestC true [(n, d), (a, b), (p, q)] = 0 then (cmpErrF n d a b p q, 0) else (0, bestC true [(n, d), (a, b), (p, q)])
theorem ret_ii' {r : Int × Int} {x b : Int} (h : r = (x, b)) : Ending.returned (.tuple #[.int .i64 x, .int .i64 b]) = .returned (.tuple #[.int .i64 r.1, .int .i64 r.2]) := by subst h; rfl
theorem small_of {n d a b p q : Int} (h : bestC true [(n, d), (a, b), (p, q)] = 0) : SmallP n d a b p q := by
  obtain ⟨_, h1, h2⟩ := bestC_zero h
  have o1 := okP_bd (h1 (n, d) (by simp)); have o2 := okP_bd (h1 (a, b) (by simp)); have o3 := okP_bd (h1 (p, q) (by simp))
  have s1 := smP_bd (h2 (n, d) (by simp)); have s2 := smP_bd (h2 (a, b) (by simp)); have s3 := smP_bd (h2 (p, q) (by simp))
  constructor <;> omega

set_option maxRecDepth 100000 in
set_option maxHeartbeats 1600000 in
theorem spec_CompareErrors (n d a b p q : Int) (w : World) :
    Calls Try.prog 35 #[.agg #[.int .i64 n, .int .i64 d], .agg #[.int .i64 a, .int .i64 b], .agg #[.int .i64 p, .int .i64 q]] w fun r w' => r = .returned (.tuple #[.int .i64 (compErrF n d a b p q).1, .int .i64 (compErrF n d a b p q).2]) ∧ Bl w w' := by
  by_cases hc : bestC true [(n, d), (a, b), (p, q)] = 0
  · have HR := Lib.hid (show compErrF n d a b p q = (cmpErrF n d a b p q, 0) by rw [compErrF, if_pos hc])
    have hb := beq_iff_eq.2 hc
    have hb : (bestC true [(n, d), (a, b), (p, q)] != 0) = false := by simp [hc]
    have HS := Lib.hid (small_of hc)
    clear hc
    generalize hcc : bestC true [(n, d), (a, b), (p, q)] = cc at *
    have HC := Lib.hid hcc
    clear hcc
    go_enter Try.func35, Try.ntmps35
    go_wp2_with fail
    refine (l18Code_any _ _ _ (SlF.lit (fs := [(n, d), (a, b), (p, q)]) (Bx.new (b := w.heap.size + 1 + 1 + 1) _ #[.int .i64 n, .int .i64 d, .int .i64 a, .int .i64 b, .int .i64 p, .int .i64 q] 44 (by first | rfl | simp)) rfl (Nat.le_refl _) (by simp [maxLen]) (lit3 n d a b p q))).mono ?_
    rintro e w1 ⟨rfl, hb1⟩
    have B1 : Bl w w1 := bl_call (bl_alloc (bl_alloc (bl_alloc (bl_alloc (bl_refl _) _) _) _) _) hb1
    have xF_1 : Bx w1 (w.heap.size) #[.int .i64 n, .int .i64 d] := ((((Bx.new (b := w.heap.size) _ #[.int .i64 n, .int .i64 d] 44 (by first | rfl | simp)).alloc _).alloc _).alloc _).below hb1
    have xA_1 : Bx w1 (w.heap.size + 1) #[.int .i64 a, .int .i64 b] := (((Bx.new (b := w.heap.size + 1) _ #[.int .i64 a, .int .i64 b] 44 (by first | rfl | simp)).alloc _).alloc _).below hb1
    have xB_1 : Bx w1 (w.heap.size + 1 + 1) #[.int .i64 p, .int .i64 q] := ((Bx.new (b := w.heap.size + 1 + 1) _ #[.int .i64 p, .int .i64 q] 44 (by first | rfl | simp)).alloc _).below hb1
    have xL_1 : Bx w1 (w.heap.size + 1 + 1 + 1) #[.int .i64 n, .int .i64 d, .int .i64 a, .int .i64 b, .int .i64 p, .int .i64 q] := (Bx.new (b := w.heap.size + 1 + 1 + 1) _ #[.int .i64 n, .int .i64 d, .int .i64 a, .int .i64 b, .int .i64 p, .int .i64 q] 44 (by first | rfl | simp)).below hb1
    obtain ⟨cF_1, fF_1, zF_1⟩ := xF_1.out
    obtain ⟨cA_1, fA_1, zA_1⟩ := xA_1.out
    obtain ⟨cB_1, fB_1, zB_1⟩ := xB_1.out
    obtain ⟨cL_1, fL_1, zL_1⟩ := xL_1.out
    rw [HC.out]
    go_wp2_with fail
    refine (scmpErr_any n d a b p q _ HS.out).mono ?_
    rintro e w2 ⟨rfl, hb2⟩
    have B2 : Bl w w2 := bl_call B1 hb2
    have xF_2 : Bx w2 (w.heap.size) #[.int .i64 n, .int .i64 d] := xF_1.below hb2
    have xA_2 : Bx w2 (w.heap.size + 1) #[.int .i64 a, .int .i64 b] := xA_1.below hb2
    have xB_2 : Bx w2 (w.heap.size + 1 + 1) #[.int .i64 p, .int .i64 q] := xB_1.below hb2
    have xL_2 : Bx w2 (w.heap.size + 1 + 1 + 1) #[.int .i64 n, .int .i64 d, .int .i64 a, .int .i64 b, .int .i64 p, .int .i64 q] := xL_1.below hb2
    clear cF_1 fF_1 zF_1 cA_1 fA_1 zA_1 cB_1 fB_1 zB_1 cL_1 fL_1 zL_1
    obtain ⟨cF_2, fF_2, zF_2⟩ := xF_2.out
    obtain ⟨cA_2, fA_2, zA_2⟩ := xA_2.out
    obtain ⟨cB_2, fB_2, zB_2⟩ := xB_2.out
    obtain ⟨cL_2, fL_2, zL_2⟩ := xL_2.out
    go_wp2
    go_ret2
    exact ⟨ret_ii' HR.out, B2⟩
  · have HR := Lib.hid (show compErrF n d a b p q = (0, bestC true [(n, d), (a, b), (p, q)]) by rw [compErrF, if_neg hc])
    have hb : (bestC true [(n, d), (a, b), (p, q)] != 0) = true := by simp [hc]
    clear hc
    generalize hcc : bestC true [(n, d), (a, b), (p, q)] = cc at *
    have HC := Lib.hid hcc
    clear hcc
    go_enter Try.func35, Try.ntmps35
    go_wp2_with fail
    refine (l18Code_any _ _ _ (SlF.lit (fs := [(n, d), (a, b), (p, q)]) (Bx.new (b := w.heap.size + 1 + 1 + 1) _ #[.int .i64 n, .int .i64 d, .int .i64 a, .int .i64 b, .int .i64 p, .int .i64 q] 44 (by first | rfl | simp)) rfl (Nat.le_refl _) (by simp [maxLen]) (lit3 n d a b p q))).mono ?_
    rintro e w1 ⟨rfl, hb1⟩
    have B1 : Bl w w1 := bl_call (bl_alloc (bl_alloc (bl_alloc (bl_alloc (bl_refl _) _) _) _) _) hb1
    have xF_1 : Bx w1 (w.heap.size) #[.int .i64 n, .int .i64 d] := ((((Bx.new (b := w.heap.size) _ #[.int .i64 n, .int .i64 d] 44 (by first | rfl | simp)).alloc _).alloc _).alloc _).below hb1
    have xA_1 : Bx w1 (w.heap.size + 1) #[.int .i64 a, .int .i64 b] := (((Bx.new (b := w.heap.size + 1) _ #[.int .i64 a, .int .i64 b] 44 (by first | rfl | simp)).alloc _).alloc _).below hb1
    have xB_1 : Bx w1 (w.heap.size + 1 + 1) #[.int .i64 p, .int .i64 q] := ((Bx.new (b := w.heap.size + 1 + 1) _ #[.int .i64 p, .int .i64 q] 44 (by first | rfl | simp)).alloc _).below hb1
    have xL_1 : Bx w1 (w.heap.size + 1 + 1 + 1) #[.int .i64 n, .int .i64 d, .int .i64 a, .int .i64 b, .int .i64 p, .int .i64 q] := (Bx.new (b := w.heap.size + 1 + 1 + 1) _ #[.int .i64 n, .int .i64 d, .int .i64 a, .int .i64 b, .int .i64 p, .int .i64 q] 44 (by first | rfl | simp)).below hb1
    obtain ⟨cF_1, fF_1, zF_1⟩ := xF_1.out
    obtain ⟨cA_1, fA_1, zA_1⟩ := xA_1.out
    obtain ⟨cB_1, fB_1, zB_1⟩ := xB_1.out
    obtain ⟨cL_1, fL_1, zL_1⟩ := xL_1.out
    rw [HC.out]
    go_wp2
    go_ret2
    exact ⟨ret_ii' HR.out, B1⟩

end Go.Proofs.Ytgkelemfbmmgnaa

/- The convergents of terms: the program and the reference. Each theorem names its conditions. -/
namespace Go.Proofs.Ytgkelemfbmmgnaa
open Go.RowKit
set_option linter.unusedVariables false
set_option linter.unusedSimpArgs false

theorem mulb {x y X Y : Int} (h1 : -X ≤ x ∧ x ≤ X) (h2 : -Y ≤ y ∧ y ≤ Y) : -(X * Y) ≤ x * y ∧ x * y ≤ X * Y := by
  have hX : 0 ≤ X := by omega
  have hY : 0 ≤ Y := by omega
  have a1 := Int.mul_nonneg (show 0 ≤ X - x by omega) (show 0 ≤ Y - y by omega)
  have a2 := Int.mul_nonneg (show 0 ≤ X + x by omega) (show 0 ≤ Y + y by omega)
  have a3 := Int.mul_nonneg (show 0 ≤ X - x by omega) (show 0 ≤ Y + y by omega)
  have a4 := Int.mul_nonneg (show 0 ≤ X + x by omega) (show 0 ≤ Y - y by omega)
  have e1 : (X - x) * (Y - y) = X * Y - X * y - x * Y + x * y := by grind
  have e2 : (X + x) * (Y + y) = X * Y + X * y + x * Y + x * y := by grind
  have e3 : (X - x) * (Y + y) = X * Y + X * y - x * Y - x * y := by grind
  have e4 : (X + x) * (Y - y) = X * Y - X * y + x * Y - x * y := by grind
  omega
/-- The convergents behind a state, if all are plain. -/
def convG : List Int → Int → Int → Int → Int → Option (List (Int × Int))
  | [], _, _, _, _ => some []
  | t :: ts, p, q, p0, q0 => if okF (t * p + p0) (t * q + q0) then (convG ts (t * p + p0) (t * q + q0) p q).map ((t * p + p0, t * q + q0) :: ·) else none
def convL (xs : List Int) : Option (List (Int × Int)) := convG xs 1 0 0 1
theorem drop_cons {xs : List Int} {k : Nat} {t : Int} (h : xs[k]? = some t) : xs.drop k = t :: xs.drop (k + 1) := by
  obtain ⟨h1, h2⟩ := List.getElem?_eq_some_iff.1 h
  rw [List.drop_eq_getElem_cons h1, h2]
theorem convG_no {xs : List Int} {k : Nat} {t p q p0 q0 : Int} {fs : List (Int × Int)} {R : Option (List (Int × Int))} (h : xs[k]? = some t) (hr : R = (convG (xs.drop k) p q p0 q0).map (fs ++ ·)) (ho : okF (t * p + p0) (t * q + q0) = false) : R = none := by
  rw [hr, drop_cons h, convG, ho]
  rfl
theorem convG_yes {xs : List Int} {k : Nat} {t p q p0 q0 : Int} {fs : List (Int × Int)} {R : Option (List (Int × Int))} (h : xs[k]? = some t) (hr : R = (convG (xs.drop k) p q p0 q0).map (fs ++ ·)) (ho : okF (t * p + p0) (t * q + q0) = true) : R = (convG (xs.drop (k + 1)) (t * p + p0) (t * q + q0) p q).map ((fs ++ [(t * p + p0, t * q + q0)]) ++ ·) := by
  rw [hr, drop_cons h, convG, ho, if_pos rfl, Option.map_map]
  congr 1
  funext l
  simp
theorem convG_end {xs : List Int} {k : Nat} {p q p0 q0 : Int} {fs : List (Int × Int)} {R : Option (List (Int × Int))} (h : xs.length ≤ k) (hr : R = (convG (xs.drop k) p q p0 q0).map (fs ++ ·)) : R = some fs := by
  rw [hr, List.drop_eq_nil_of_le h, convG]
  simp
theorem convG_len {xs : List Int} : ∀ {p q p0 q0 : Int} {fs : List (Int × Int)}, convG xs p q p0 q0 = some fs → fs.length = xs.length := by
  induction xs with
  | nil => intro p q p0 q0 fs h; simp [convG] at h; subst h; rfl
  | cons t ts ih =>
    intro p q p0 q0 fs h
    rw [convG] at h
    split at h
    · obtain ⟨l, hl, rfl⟩ := Option.map_eq_some_iff.1 h
      simp [ih hl]
    · cases h
theorem convG_ok {xs : List Int} : ∀ {p q p0 q0 : Int} {fs : List (Int × Int)}, convG xs p q p0 q0 = some fs → ∀ f ∈ fs, okF f.1 f.2 = true := by
  induction xs with
  | nil => intro p q p0 q0 fs h; simp [convG] at h; subst h; simp
  | cons t ts ih =>
    intro p q p0 q0 fs h
    rw [convG] at h
    split at h
    · rename_i ho
      obtain ⟨l, hl, rfl⟩ := Option.map_eq_some_iff.1 h
      intro f hf
      rcases List.mem_cons.1 hf with rfl | hf
      · exact ho
      · exact ih hl f hf
    · cases h
theorem validF_eq' {n d : Int} {b : Bool} (h : okF n d = b) (w : World) : Calls Try.prog 104 #[.agg #[.int .i64 n, .int .i64 d]] w fun e w' => e = .returned (.bool b) ∧ Bl w w' := h ▸ validF_any n d w
theorem ok_eq' {n d : Int} {b : Bool} (h : okF n d = b) (w : World) : Calls Try.prog 54 #[.agg #[.int .i64 n, .int .i64 d]] w fun e w' => e = .returned (.bool b) ∧ Bl w w' := h ▸ ok_any n d w
theorem ret_fb {v : Value} {R : Option (List (Int × Int))} {b : Bool} (h : R.isSome = b) : Ending.returned (.tuple #[v, .bool b]) = .returned (.tuple #[v, .bool R.isSome]) := by rw [h]

end Go.Proofs.Ytgkelemfbmmgnaa

