/- The convergents of terms: the program and the reference. Each theorem names its conditions. -/
import Derived.Test.YtgkelemfbmmgnaaAppF
import Derived.Test.YtgkelemfbmmgnaaLawI
import Derived.Test.YtgkelemfbmmgnaaCont
import Derived.Test.YtgkelemfbmmgnaaOk
namespace Go.Proofs.Ytgkelemfbmmgnaa
open Go.RowKit
set_option linter.unusedVariables false
set_option linter.unusedSimpArgs false

theorem mulb {x y X Y : Int} (h1 : -X ≤ x ∧ x ≤ X) (h2 : -Y ≤ y ∧ y ≤ Y) : -(X * Y) ≤ x * y ∧ x * y ≤ X * Y := by
  have hX : 0 ≤ X := by omega
  have hY : 0 ≤ Y := by omega
  have a1 := Int.mul_nonneg (show 0 ≤ X - x by omega) (show 0 ≤ Y - y by omega)
  have a2 := Int.mul_nonneg (show 0 ≤ X + x by omega) (show 0 ≤ Y + y by omega)
  have a3 := Int.mul_nonneg (show 0 ≤ X - x by omega) (show 0 ≤ Y + y by omega)
  have a4 := Int.mul_nonneg (show 0 ≤ X + x by omega) (show 0 ≤ Y - y by omega)
  have e1 : (X - x) * (Y - y) = X * Y - X * y - x * Y + x * y := by grind
  have e2 : (X + x) * (Y + y) = X * Y + X * y + x * Y + x * y := by grind
  have e3 : (X - x) * (Y + y) = X * Y + X * y - x * Y - x * y := by grind
  have e4 : (X + x) * (Y - y) = X * Y - X * y + x * Y - x * y := by grind
  omega
/-- The convergents behind a state, if all are plain. -/
def convG : List Int → Int → Int → Int → Int → Option (List (Int × Int))
  | [], _, _, _, _ => some []
  | t :: ts, p, q, p0, q0 => if okF (t * p + p0) (t * q + q0) then (convG ts (t * p + p0) (t * q + q0) p q).map ((t * p + p0, t * q + q0) :: ·) else none
def convL (xs : List Int) : Option (List (Int × Int)) := convG xs 1 0 0 1
theorem drop_cons {xs : List Int} {k : Nat} {t : Int} (h : xs[k]? = some t) : xs.drop k = t :: xs.drop (k + 1) := by
  obtain ⟨h1, h2⟩ := List.getElem?_eq_some_iff.1 h
  rw [List.drop_eq_getElem_cons h1, h2]
theorem convG_no {xs : List Int} {k : Nat} {t p q p0 q0 : Int} {fs : List (Int × Int)} {R : Option (List (Int × Int))} (h : xs[k]? = some t) (hr : R = (convG (xs.drop k) p q p0 q0).map (fs ++ ·)) (ho : okF (t * p + p0) (t * q + q0) = false) : R = none := by
  rw [hr, drop_cons h, convG, ho]
  rfl
theorem convG_yes {xs : List Int} {k : Nat} {t p q p0 q0 : Int} {fs : List (Int × Int)} {R : Option (List (Int × Int))} (h : xs[k]? = some t) (hr : R = (convG (xs.drop k) p q p0 q0).map (fs ++ ·)) (ho : okF (t * p + p0) (t * q + q0) = true) : R = (convG (xs.drop (k + 1)) (t * p + p0) (t * q + q0) p q).map ((fs ++ [(t * p + p0, t * q + q0)]) ++ ·) := by
  rw [hr, drop_cons h, convG, ho, if_pos rfl, Option.map_map]
  congr 1
  funext l
  simp
theorem convG_end {xs : List Int} {k : Nat} {p q p0 q0 : Int} {fs : List (Int × Int)} {R : Option (List (Int × Int))} (h : xs.length ≤ k) (hr : R = (convG (xs.drop k) p q p0 q0).map (fs ++ ·)) : R = some fs := by
  rw [hr, List.drop_eq_nil_of_le h, convG]
  simp
theorem convG_len {xs : List Int} : ∀ {p q p0 q0 : Int} {fs : List (Int × Int)}, convG xs p q p0 q0 = some fs → fs.length = xs.length := by
  induction xs with
  | nil => intro p q p0 q0 fs h; simp [convG] at h; subst h; rfl
  | cons t ts ih =>
    intro p q p0 q0 fs h
    rw [convG] at h
    split at h
    · obtain ⟨l, hl, rfl⟩ := Option.map_eq_some_iff.1 h
      simp [ih hl]
    · cases h
theorem convG_ok {xs : List Int} : ∀ {p q p0 q0 : Int} {fs : List (Int × Int)}, convG xs p q p0 q0 = some fs → ∀ f ∈ fs, okF f.1 f.2 = true := by
  induction xs with
  | nil => intro p q p0 q0 fs h; simp [convG] at h; subst h; simp
  | cons t ts ih =>
    intro p q p0 q0 fs h
    rw [convG] at h
    split at h
    · rename_i ho
      obtain ⟨l, hl, rfl⟩ := Option.map_eq_some_iff.1 h
      intro f hf
      rcases List.mem_cons.1 hf with rfl | hf
      · exact ho
      · exact ih hl f hf
    · cases h
theorem validF_eq' {n d : Int} {b : Bool} (h : okF n d = b) (w : World) : Calls Try.prog 104 #[.agg #[.int .i64 n, .int .i64 d]] w fun e w' => e = .returned (.bool b) ∧ Bl w w' := h ▸ validF_any n d w
theorem ok_eq' {n d : Int} {b : Bool} (h : okF n d = b) (w : World) : Calls Try.prog 54 #[.agg #[.int .i64 n, .int .i64 d]] w fun e w' => e = .returned (.bool b) ∧ Bl w w' := h ▸ ok_any n d w
theorem ret_fb {v : Value} {R : Option (List (Int × Int))} {b : Bool} (h : R.isSome = b) : Ending.returned (.tuple #[v, .bool b]) = .returned (.tuple #[v, .bool R.isSome]) := by rw [h]

end Go.Proofs.Ytgkelemfbmmgnaa
