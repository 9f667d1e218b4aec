/- Digits of a base: what the program and the reference make of them. Each theorem names its conditions. -/
import Derived.Test.YtndblondleclpaaDoorCont
namespace Go.Proofs.YtndblondleclpaaDoor
open Go.RowKit
set_option linter.unusedVariables false
set_option linter.unusedSimpArgs false

theorem in_eq' {n lo hi : Int} {b : Bool} (h : inB n lo hi = b) (w : World) : Calls Tryd.prog 26 #[.int .i64 n, .int .i64 lo, .int .i64 hi] w fun e w' => e = .returned (.bool b) ∧ w = w' := h ▸ in_any n lo hi w
set_option maxHeartbeats 400000 in
theorem ibase_eq {n : Int} {b : Bool} (h : inB n 2 36 = b) (w : World) : Calls Tryd.prog 28 #[.int .i64 n] w fun e w' => e = .returned (.bool b) ∧ w = w' := by
  have H := Lib.hid h
  clear h
  go_enter Tryd.func28, Tryd.ntmps28
  go_wp2_with fail
  refine (inB_eq H.out _).mono ?_
  rintro e w' ⟨rfl, rfl⟩
  go_wp2
  go_ret
  exact ⟨rfl, rfl⟩
set_option maxHeartbeats 400000 in
theorem sbase_eq {n : Int} {b : Bool} (h : inB n 2 36 = b) (w : World) : Calls Tryd.prog 24 #[.int .i64 n] w fun e w' => e = .returned (.bool b) ∧ w = w' := by
  have H := Lib.hid h
  clear h
  go_enter Tryd.func24, Tryd.ntmps24
  go_wp2_with fail
  refine (in_eq' H.out _).mono ?_
  rintro e w' ⟨rfl, rfl⟩
  go_wp2
  go_ret
  exact ⟨rfl, rfl⟩
/-- Are all numbers digits of a base? -/
def digP (base : Int) (xs : List Int) : Bool := !xs.any fun x => (!inB x 0 (base - 1))
theorem digP_mem {base : Int} {xs : List Int} (h : digP base xs = true) : ∀ x ∈ xs, 0 ≤ x ∧ x ≤ base - 1 := by
  intro x hx
  have h' : (xs.any fun x => (!inB x 0 (base - 1))) = false := by simpa [digP] using h
  have := List.any_eq_false.1 h' x hx
  exact inB_iff.1 (by simpa using this)
set_option maxHeartbeats 400000 in
theorem areD_eq {base : Int} {va : Value} {xs : List Int} {b : Bool} (h : digP base xs = b) (w : World) (hb : 2 ≤ base ∧ base ≤ 36) (ha : Sl w va xs) (hl : xs.length ≤ 1048576) :
    Calls Tryd.prog 30 #[.int .i64 base, va] w fun e w' => e = .returned (.bool b) ∧ Bl w w' := by
  have H := Lib.hid h
  clear h
  go_enter Tryd.func30, Tryd.ntmps30
  go_wp2_with fail
  refine (contD_any va xs w.heap.size base _ (ha.alloc _) hl (Bx.new _ _ _ rfl) (by omega)).mono ?_
  rintro e w1 ⟨rfl, hb1⟩
  go_wp2
  go_ret
  exact ⟨ret_bool H.out, bl_call (bl_alloc (bl_refl _) _) hb1⟩
set_option maxRecDepth 100000 in
set_option maxHeartbeats 1600000 in
theorem sdig_any {base : Int} (va : Value) (xs : List Int) (w : World) (hb : 2 ≤ base ∧ base ≤ 36) (ha : Sl w va xs) (hl : xs.length ≤ 1048576) :
    Calls Tryd.prog 25 #[va, .int .i64 base] w fun e w' => e = .returned (.bool (digP base xs)) ∧ Bl w w' := by
  obtain ⟨av, cv, rfl, hcv⟩ := ha.form'
  have HA := Lib.hid ha
  clear ha
  go_enter Tryd.func25, Tryd.ntmps25
  go_wp2
  go_loopw [5] (fun s5 wr => ∃ k : Nat, s5 = .int .i64 k ∧ k ≤ xs.length ∧ Hid (((xs.take k).any fun x => (!inB x 0 (base - 1))) = false) ∧ Bl w wr) (fun s5 _ => xs.length - (intOf s5).toNat)
  case atStart => exact ⟨0, rfl, Nat.zero_le _, Lib.hid (by simp), bl_refl _⟩
  case round =>
    rcases hrel with ⟨k, rfl, hkl, hG, Br⟩
    rcases Nat.lt_or_ge k xs.length with hk | hk
    · obtain ⟨bb, oo, rfl, x, hx, cx, rx⟩ := HA.out.cellAt' Br hk
      have HX := Lib.hid hx
      clear hx
      cases hp : inB x 0 (base - 1) with
      | false =>
        have HP := Lib.hid hp
        have HN := Lib.hid (any_at (pr := fun x => (!inB x 0 (base - 1))) HX.out (by simp [hp]))
        clear hp
        go_wp2_with fail
        refine (in_eq' HP.out _).mono ?_
        rintro e w9 ⟨rfl, rfl⟩
        go_wp2
        go_ret
        exact ⟨ret_bool (by rw [digP, HN.out]; rfl), Br⟩
      | true =>
        have HP := Lib.hid hp
        have HN := Lib.hid (any_take hG.out HX.out (by simp [hp]))
        clear hp
        go_wp2_with fail
        refine (in_eq' HP.out _).mono ?_
        rintro e w9 ⟨rfl, rfl⟩
        go_wp2
        go_roundw
        case rel => exact ⟨k + 1, by go_num, by omega, HN, Br⟩
        case measure => clear HN; simp only [intOf, Int.toNat_natCast]; omega
    · have HN := Lib.hid (show (xs.any fun x => (!inB x 0 (base - 1))) = false by have := hG.out; rwa [List.take_of_length_le hk] at this)
      go_wp2
      go_ret
      exact ⟨ret_bool (by rw [digP, HN.out]; rfl), Br⟩
theorem sdig_eq {base : Int} {va : Value} {xs : List Int} {b : Bool} (h : digP base xs = b) (w : World) (hb : 2 ≤ base ∧ base ≤ 36) (ha : Sl w va xs) (hl : xs.length ≤ 1048576) :
    Calls Tryd.prog 25 #[va, .int .i64 base] w fun e w' => e = .returned (.bool b) ∧ Bl w w' := h ▸ sdig_any va xs w hb ha hl
/-! Powers and numbers. -/
theorem pow_pos' {b : Int} (hb : 2 ≤ b) (k : Nat) : 1 ≤ b ^ k := by
  induction k with
  | zero => simp
  | succ k ih =>
    rw [Int.pow_succ]
    have := Int.mul_le_mul_of_nonneg_left (show 1 ≤ b by omega) (show 0 ≤ b ^ k by omega)
    omega
theorem pow_le {b : Int} (hb : 2 ≤ b) {j k : Nat} (h : j ≤ k) : b ^ j ≤ b ^ k := by
  obtain ⟨d, rfl⟩ := Nat.exists_eq_add_of_le h
  rw [Int.pow_add]
  have := pow_pos' hb d
  have := pow_pos' hb j
  have := Int.mul_le_mul_of_nonneg_left (show 1 ≤ b ^ d by omega) (show 0 ≤ b ^ j by omega)
  omega
/-- The number with some digits. -/
def numF (b : Int) (xs : List Int) : Int := xs.foldl (fun n x => n * b + x) 0
theorem numF_snoc {b : Int} {xs : List Int} {k : Nat} {x : Int} (h : xs[k]? = some x) : numF b (xs.take (k + 1)) = numF b (xs.take k) * b + x := by
  rw [List.take_add_one, h, numF, List.foldl_append]
  rfl
theorem numF_bd {b : Int} {xs : List Int} (hb : 2 ≤ b) (h : ∀ x ∈ xs, 0 ≤ x ∧ x ≤ b - 1) : ∀ k, k ≤ xs.length → 0 ≤ numF b (xs.take k) ∧ numF b (xs.take k) ≤ b ^ k - 1 := by
  intro k
  induction k with
  | zero => intro _; simp [numF]
  | succ k ih =>
    intro hk
    have hx : xs[k]? = some xs[k] := List.getElem?_eq_getElem (by omega)
    have i := ih (by omega)
    have j := h xs[k] (List.getElem_mem (by omega))
    rw [numF_snoc hx, Int.pow_succ]
    have a := Int.mul_nonneg i.1 (show 0 ≤ b by omega)
    have c := Int.mul_le_mul_of_nonneg_right i.2 (show 0 ≤ b by omega)
    have e : (b ^ k - 1) * b = b ^ k * b - b := by grind
    omega

theorem ret_ib' {a b : Int} {c d : Bool} (h : a = b) (h' : c = d) : Ending.returned (.tuple #[.int .i64 a, .bool c]) = .returned (.tuple #[.int .i64 b, .bool d]) := by rw [h, h']
theorem quo_gt {b o : Int} (hb : 2 ≤ b) : 1000000000 / b < o ↔ 1000000000 < o * b := by
  rw [Int.ediv_lt_iff_lt_mul (by omega)]
theorem ret_iib' {a b c d : Int} {x y : Bool} (h : a = b) (h' : c = d) (h'' : x = y) : Ending.returned (.tuple #[.int .i64 a, .int .i64 c, .bool x]) = .returned (.tuple #[.int .i64 b, .int .i64 d, .bool y]) := by rw [h, h', h'']
end Go.Proofs.YtndblondleclpaaDoor
