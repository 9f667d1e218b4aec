/- Digits of a base: what the program and the reference make of them. Each theorem names its conditions. -/
import Derived.Test.YtbonlompmnhmiaaCont
namespace Go.Proofs.Ytbonlompmnhmiaa
open Go.RowKit
set_option linter.unusedVariables false
set_option linter.unusedSimpArgs false

theorem in_eq' {n lo hi : Int} {b : Bool} (h : inB n lo hi = b) (w : World) : Calls Try.prog 54 #[.int .i64 n, .int .i64 lo, .int .i64 hi] w fun e w' => e = .returned (.bool b) ∧ w = w' := h ▸ in_any n lo hi w
set_option maxHeartbeats 400000 in
theorem ibase_eq {n : Int} {b : Bool} (h : inB n 2 36 = b) (w : World) : Calls Try.prog 50 #[.int .i64 n] w fun e w' => e = .returned (.bool b) ∧ w = w' := by
  have H := Lib.hid h
  clear h
  go_enter Try.func50, Try.ntmps50
  go_wp2_with fail
  refine (inB_eq H.out _).mono ?_
  rintro e w' ⟨rfl, rfl⟩
  go_wp2
  go_ret
  exact ⟨rfl, rfl⟩
set_option maxHeartbeats 400000 in
theorem sbase_eq {n : Int} {b : Bool} (h : inB n 2 36 = b) (w : World) : Calls Try.prog 47 #[.int .i64 n] w fun e w' => e = .returned (.bool b) ∧ w = w' := by
  have H := Lib.hid h
  clear h
  go_enter Try.func47, Try.ntmps47
  go_wp2_with fail
  refine (in_eq' H.out _).mono ?_
  rintro e w' ⟨rfl, rfl⟩
  go_wp2
  go_ret
  exact ⟨rfl, rfl⟩
/-- Are all numbers digits of a base? -/
def digP (base : Int) (xs : List Int) : Bool := !xs.any fun x => (!inB x 0 (base - 1))
theorem digP_mem {base : Int} {xs : List Int} (h : digP base xs = true) : ∀ x ∈ xs, 0 ≤ x ∧ x ≤ base - 1 := by
  intro x hx
  have h' : (xs.any fun x => (!inB x 0 (base - 1))) = false := by simpa [digP] using h
  have := List.any_eq_false.1 h' x hx
  exact inB_iff.1 (by simpa using this)
/-! Powers and numbers. -/
theorem pow_pos' {b : Int} (hb : 2 ≤ b) (k : Nat) : 1 ≤ b ^ k := by
  induction k with
  | zero => simp
  | succ k ih =>
    rw [Int.pow_succ]
    have := Int.mul_le_mul_of_nonneg_left (show 1 ≤ b by omega) (show 0 ≤ b ^ k by omega)
    omega
theorem pow_le {b : Int} (hb : 2 ≤ b) {j k : Nat} (h : j ≤ k) : b ^ j ≤ b ^ k := by
  obtain ⟨d, rfl⟩ := Nat.exists_eq_add_of_le h
  rw [Int.pow_add]
  have := pow_pos' hb d
  have := pow_pos' hb j
  have := Int.mul_le_mul_of_nonneg_left (show 1 ≤ b ^ d by omega) (show 0 ≤ b ^ j by omega)
  omega
/-- The number with some digits. -/
def numF (b : Int) (xs : List Int) : Int := xs.foldl (fun n x => n * b + x) 0
theorem numF_snoc {b : Int} {xs : List Int} {k : Nat} {x : Int} (h : xs[k]? = some x) : numF b (xs.take (k + 1)) = numF b (xs.take k) * b + x := by
  rw [List.take_add_one, h, numF, List.foldl_append]
  rfl
theorem numF_bd {b : Int} {xs : List Int} (hb : 2 ≤ b) (h : ∀ x ∈ xs, 0 ≤ x ∧ x ≤ b - 1) : ∀ k, k ≤ xs.length → 0 ≤ numF b (xs.take k) ∧ numF b (xs.take k) ≤ b ^ k - 1 := by
  intro k
  induction k with
  | zero => intro _; simp [numF]
  | succ k ih =>
    intro hk
    have hx : xs[k]? = some xs[k] := List.getElem?_eq_getElem (by omega)
    have i := ih (by omega)
    have j := h xs[k] (List.getElem_mem (by omega))
    rw [numF_snoc hx, Int.pow_succ]
    have a := Int.mul_nonneg i.1 (show 0 ≤ b by omega)
    have c := Int.mul_le_mul_of_nonneg_right i.2 (show 0 ≤ b by omega)
    have e : (b ^ k - 1) * b = b ^ k * b - b := by grind
    omega

theorem ret_ib' {a b : Int} {c d : Bool} (h : a = b) (h' : c = d) : Ending.returned (.tuple #[.int .i64 a, .bool c]) = .returned (.tuple #[.int .i64 b, .bool d]) := by rw [h, h']
theorem quo_gt {b o : Int} (hb : 2 ≤ b) : 1000000000 / b < o ↔ 1000000000 < o * b := by
  rw [Int.ediv_lt_iff_lt_mul (by omega)]
theorem ret_iib' {a b c d : Int} {x y : Bool} (h : a = b) (h' : c = d) (h'' : x = y) : Ending.returned (.tuple #[.int .i64 a, .int .i64 c, .bool x]) = .returned (.tuple #[.int .i64 b, .int .i64 d, .bool y]) := by rw [h, h', h'']
end Go.Proofs.Ytbonlompmnhmiaa
