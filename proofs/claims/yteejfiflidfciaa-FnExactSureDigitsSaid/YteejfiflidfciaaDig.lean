/- Digits of a base: what the program and the reference make of them. Each theorem names its conditions. -/
import Derived.Test.YteejfiflidfciaaCont
namespace Go.Proofs.Yteejfiflidfciaa
open Go.RowKit
set_option linter.unusedVariables false
set_option linter.unusedSimpArgs false

theorem in_eq' {n lo hi : Int} {b : Bool} (h : inB n lo hi = b) (w : World) : Calls Try.prog 56 #[.int .i64 n, .int .i64 lo, .int .i64 hi] w fun e w' => e = .returned (.bool b) ∧ w = w' := h ▸ in_any n lo hi w
set_option maxHeartbeats 400000 in
theorem ibase_eq {n : Int} {b : Bool} (h : inB n 2 36 = b) (w : World) : Calls Try.prog 75 #[.int .i64 n] w fun e w' => e = .returned (.bool b) ∧ w = w' := by
  have H := Lib.hid h
  clear h
  go_enter Try.func75, Try.ntmps75
  go_wp2_with fail
  refine (inB_eq H.out _).mono ?_
  rintro e w' ⟨rfl, rfl⟩
  go_wp2
  go_ret
  exact ⟨rfl, rfl⟩
set_option maxHeartbeats 400000 in
theorem sbase_eq {n : Int} {b : Bool} (h : inB n 2 36 = b) (w : World) : Calls Try.prog 71 #[.int .i64 n] w fun e w' => e = .returned (.bool b) ∧ w = w' := by
  have H := Lib.hid h
  clear h
  go_enter Try.func71, Try.ntmps71
  go_wp2_with fail
  refine (in_eq' H.out _).mono ?_
  rintro e w' ⟨rfl, rfl⟩
  go_wp2
  go_ret
  exact ⟨rfl, rfl⟩
/-- Are all numbers digits of a base? -/
def digP (base : Int) (xs : List Int) : Bool := !xs.any fun x => (!inB x 0 (base - 1))
theorem digP_mem {base : Int} {xs : List Int} (h : digP base xs = true) : ∀ x ∈ xs, 0 ≤ x ∧ x ≤ base - 1 := by
  intro x hx
  have h' : (xs.any fun x => (!inB x 0 (base - 1))) = false := by simpa [digP] using h
  have := List.any_eq_false.1 h' x hx
  exact inB_iff.1 (by simpa using this)
set_option maxHeartbeats 400000 in
theorem areD_eq {base : Int} {va : Value} {xs : List Int} {b : Bool} (h : digP base xs = b) (w : World) (hb : 2 ≤ base ∧ base ≤ 36) (ha : Sl w va xs) (hl : xs.length ≤ 1048576) :
    Calls Try.prog 81 #[.int .i64 base, va] w fun e w' => e = .returned (.bool b) ∧ Bl w w' := by
  have H := Lib.hid h
  clear h
  go_enter Try.func81, Try.ntmps81
  go_wp2_with fail
  refine (contD_any va xs w.heap.size base _ (ha.alloc _) hl (Bx.new _ _ _ rfl) (by omega)).mono ?_
  rintro e w1 ⟨rfl, hb1⟩
  go_wp2
  go_ret
  exact ⟨ret_bool H.out, bl_call (bl_alloc (bl_refl _) _) hb1⟩
set_option maxRecDepth 100000 in
set_option maxHeartbeats 1600000 in
theorem sdig_any {base : Int} (va : Value) (xs : List Int) (w : World) (hb : 2 ≤ base ∧ base ≤ 36) (ha : Sl w va xs) (hl : xs.length ≤ 1048576) :
    Calls Try.prog 78 #[va, .int .i64 base] w fun e w' => e = .returned (.bool (digP base xs)) ∧ Bl w w' := by
  obtain ⟨av, cv, rfl, hcv⟩ := ha.form'
  have HA := Lib.hid ha
  clear ha
  go_enter Try.func78, Try.ntmps78
  go_wp2
  go_loopw [5] (fun s5 wr => ∃ k : Nat, s5 = .int .i64 k ∧ k ≤ xs.length ∧ Hid (((xs.take k).any fun x => (!inB x 0 (base - 1))) = false) ∧ Bl w wr) (fun s5 _ => xs.length - (intOf s5).toNat)
  case atStart => exact ⟨0, rfl, Nat.zero_le _, Lib.hid (by simp), bl_refl _⟩
  case round =>
    rcases hrel with ⟨k, rfl, hkl, hG, Br⟩
    rcases Nat.lt_or_ge k xs.length with hk | hk
    · obtain ⟨bb, oo, rfl, x, hx, cx, rx⟩ := HA.out.cellAt' Br hk
      have HX := Lib.hid hx
      clear hx
      cases hp : inB x 0 (base - 1) with
      | false =>
        have HP := Lib.hid hp
        have HN := Lib.hid (any_at (pr := fun x => (!inB x 0 (base - 1))) HX.out (by simp [hp]))
        clear hp
        go_wp2_with fail
        refine (in_eq' HP.out _).mono ?_
        rintro e w9 ⟨rfl, rfl⟩
        go_wp2
        go_ret
        exact ⟨ret_bool (by rw [digP, HN.out]; rfl), Br⟩
      | true =>
        have HP := Lib.hid hp
        have HN := Lib.hid (any_take hG.out HX.out (by simp [hp]))
        clear hp
        go_wp2_with fail
        refine (in_eq' HP.out _).mono ?_
        rintro e w9 ⟨rfl, rfl⟩
        go_wp2
        go_roundw
        case rel => exact ⟨k + 1, by go_num, by omega, HN, Br⟩
        case measure => clear HN; simp only [intOf, Int.toNat_natCast]; omega
    · have HN := Lib.hid (show (xs.any fun x => (!inB x 0 (base - 1))) = false by have := hG.out; rwa [List.take_of_length_le hk] at this)
      go_wp2
      go_ret
      exact ⟨ret_bool (by rw [digP, HN.out]; rfl), Br⟩
theorem sdig_eq {base : Int} {va : Value} {xs : List Int} {b : Bool} (h : digP base xs = b) (w : World) (hb : 2 ≤ base ∧ base ≤ 36) (ha : Sl w va xs) (hl : xs.length ≤ 1048576) :
    Calls Try.prog 78 #[va, .int .i64 base] w fun e w' => e = .returned (.bool b) ∧ Bl w w' := h ▸ sdig_any va xs w hb ha hl
/-! Powers and numbers. -/
theorem pow_pos' {b : Int} (hb : 2 ≤ b) (k : Nat) : 1 ≤ b ^ k := by
  induction k with
  | zero => simp
  | succ k ih =>
    rw [Int.pow_succ]
    have := Int.mul_le_mul_of_nonneg_left (show 1 ≤ b by omega) (show 0 ≤ b ^ k by omega)
    omega
theorem pow_le {b : Int} (hb : 2 ≤ b) {j k : Nat} (h : j ≤ k) : b ^ j ≤ b ^ k := by
  obtain ⟨d, rfl⟩ := Nat.exists_eq_add_of_le h
  rw [Int.pow_add]
  have := pow_pos' hb d
  have := pow_pos' hb j
  have := Int.mul_le_mul_of_nonneg_left (show 1 ≤ b ^ d by omega) (show 0 ≤ b ^ j by omega)
  omega
/-- The number with some digits. -/
def numF (b : Int) (xs : List Int) : Int := xs.foldl (fun n x => n * b + x) 0
theorem numF_snoc {b : Int} {xs : List Int} {k : Nat} {x : Int} (h : xs[k]? = some x) : numF b (xs.take (k + 1)) = numF b (xs.take k) * b + x := by
  rw [List.take_add_one, h, numF, List.foldl_append]
  rfl
theorem numF_bd {b : Int} {xs : List Int} (hb : 2 ≤ b) (h : ∀ x ∈ xs, 0 ≤ x ∧ x ≤ b - 1) : ∀ k, k ≤ xs.length → 0 ≤ numF b (xs.take k) ∧ numF b (xs.take k) ≤ b ^ k - 1 := by
  intro k
  induction k with
  | zero => intro _; simp [numF]
  | succ k ih =>
    intro hk
    have hx : xs[k]? = some xs[k] := List.getElem?_eq_getElem (by omega)
    have i := ih (by omega)
    have j := h xs[k] (List.getElem_mem (by omega))
    rw [numF_snoc hx, Int.pow_succ]
    have a := Int.mul_nonneg i.1 (show 0 ≤ b by omega)
    have c := Int.mul_le_mul_of_nonneg_right i.2 (show 0 ≤ b by omega)
    have e : (b ^ k - 1) * b = b ^ k * b - b := by grind
    omega

theorem ret_ib' {a b : Int} {c d : Bool} (h : a = b) (h' : c = d) : Ending.returned (.tuple #[.int .i64 a, .bool c]) = .returned (.tuple #[.int .i64 b, .bool d]) := by rw [h, h']
set_option maxRecDepth 100000 in
set_option maxHeartbeats 1600000 in
theorem power_ok {b : Int} (k : Nat) (w : World) (hb : 2 ≤ b ∧ b ≤ 36) (hk : k ≤ 1048576) (h : b ^ k ≤ 1000000000) :
    Calls Try.prog 82 #[.int .i64 b, .int .i64 k] w fun e w' => e = .returned (.tuple #[.int .i64 (b ^ k), .bool true]) ∧ Bl w w' := by
  have HH := Lib.hid h
  clear h
  go_enter Try.func82, Try.ntmps82
  go_wp2
  go_loopw [6, 8] (fun s6 s8 wr => ∃ (j : Nat) (o : Int), s8 = .int .i64 j ∧ s6 = .int .i64 o ∧ j ≤ k ∧ Hid (o = b ^ j) ∧ 1 ≤ o ∧ o ≤ 1000000000 ∧ Bl w wr) (fun _ s8 _ => k - (intOf s8).toNat)
  case atStart => exact ⟨0, 1, rfl, rfl, Nat.zero_le _, Lib.hid (by simp), by omega, by omega, bl_refl _⟩
  case round =>
    rcases hrel with ⟨j, o, rfl, rfl, hjk, ho, h1, h2, Br⟩
    rcases Nat.lt_or_ge j k with hk | hk
    · have HN := Lib.hid (show o * b = b ^ (j + 1) by rw [ho.out, Int.pow_succ])
      have hle : o * b ≤ 1000000000 := by have := pow_le hb.1 (show j + 1 ≤ k by omega); have := HH.out; rw [HN.out]; omega
      have hge := Int.mul_le_mul_of_nonneg_left (show 1 ≤ b by omega) (show 0 ≤ o by omega)
      go_wp2
      go_roundw
      case rel => exact ⟨j + 1, _, by go_num, rfl, by omega, HN, by omega, by omega, Br⟩
      case measure => clear HN; simp only [intOf, Int.toNat_natCast]; omega
    · obtain rfl : j = k := by omega
      go_wp2
      go_ret2
      exact ⟨ret_ib' ho.out rfl, Br⟩
set_option maxRecDepth 100000 in
set_option maxHeartbeats 1600000 in
theorem power_no {b : Int} (k : Nat) (w : World) (hb : 2 ≤ b ∧ b ≤ 36) (hk : k ≤ 1048576) (h : 1000000000 < b ^ k) :
    Calls Try.prog 82 #[.int .i64 b, .int .i64 k] w fun e w' => e = .returned (.tuple #[.int .i64 0, .bool false]) ∧ Bl w w' := by
  have HH := Lib.hid h
  clear h
  go_enter Try.func82, Try.ntmps82
  go_wp2
  go_loopw [6, 8] (fun s6 s8 wr => ∃ (j : Nat) (o : Int), s8 = .int .i64 j ∧ s6 = .int .i64 o ∧ j ≤ k ∧ Hid (o = b ^ j) ∧ 1 ≤ o ∧ o ≤ 1000000000 ∧ Bl w wr) (fun _ s8 _ => k - (intOf s8).toNat)
  case atStart => exact ⟨0, 1, rfl, rfl, Nat.zero_le _, Lib.hid (by simp), by omega, by omega, bl_refl _⟩
  case round =>
    rcases hrel with ⟨j, o, rfl, rfl, hjk, ho, h1, h2, Br⟩
    have hjk2 : j < k := by
      rcases Nat.lt_or_ge j k with q | q
      · exact q
      · have e : j = k := by omega
        have a := ho.out; have c := HH.out; rw [e] at a; omega
    have HN := Lib.hid (show o * b = b ^ (j + 1) by rw [ho.out, Int.pow_succ])
    have hge := Int.mul_le_mul_of_nonneg_left (show 1 ≤ b by omega) (show 0 ≤ o by omega)
    have hup := Int.mul_le_mul_of_nonneg_left hb.2 (show 0 ≤ o by omega)
    rcases Int.lt_or_le 1000000000 (o * b) with hq | hq
    · go_wp2
      go_ret2
      exact ⟨rfl, Br⟩
    · go_wp2
      go_roundw
      case rel => exact ⟨j + 1, _, by go_num, rfl, by omega, HN, by omega, by omega, Br⟩
      case measure => clear HN; simp only [intOf, Int.toNat_natCast]; omega
set_option maxRecDepth 100000 in
set_option maxHeartbeats 1600000 in
theorem numI_any {b : Int} (va : Value) (xs : List Int) (w : World) (hb : 2 ≤ b ∧ b ≤ 36) (ha : Sl w va xs) (hl : xs.length ≤ 1048576) (hd : ∀ x ∈ xs, 0 ≤ x ∧ x ≤ b - 1) (hp : b ^ xs.length ≤ 1000000000) :
    Calls Try.prog 83 #[.int .i64 b, va] w fun e w' => e = .returned (.int .i64 (numF b xs)) ∧ Bl w w' := by
  obtain ⟨av, cv, rfl, hcv⟩ := ha.form'
  have HA := Lib.hid ha
  have HD := Lib.hid hd
  have HP := Lib.hid hp
  clear ha hd hp
  go_enter Try.func83, Try.ntmps83
  go_wp2
  go_loopw [5, 10, 7] (fun s5 s10 s7 wr => ∃ (k : Nat) (n : Int), s10 = .int .i64 k ∧ s5 = .int .i64 n ∧ k ≤ xs.length ∧ Hid (n = numF b (xs.take k)) ∧ Bl w wr) (fun _ s10 _ _ => xs.length - (intOf s10).toNat)
  case atStart => exact ⟨0, 0, rfl, rfl, Nat.zero_le _, Lib.hid (by simp [numF]), bl_refl _⟩
  case round =>
    rcases hrel with ⟨k, n, rfl, rfl, hkl, hn, Br⟩
    rcases Nat.lt_or_ge k xs.length with hk | hk
    · obtain ⟨bb, oo, rfl, x, hx, cx, rx⟩ := HA.out.cellAt' Br hk
      have hxd := HD.out x (List.mem_of_getElem? hx)
      have HN := Lib.hid (show n * b + x = numF b (xs.take (k + 1)) by rw [numF_snoc hx, hn.out])
      have bd := numF_bd hb.1 HD.out k hkl
      rw [← hn.out] at bd
      have hpk := pow_le hb.1 hkl
      have hpp := HP.out
      have hb2 : 0 ≤ n ∧ n ≤ 1000000000 := by omega
      have a1 := Int.mul_nonneg hb2.1 (show 0 ≤ b by omega)
      have a2 := Int.mul_le_mul hb2.2 hb.2 (show 0 ≤ b by omega) (by omega)
      clear hx bd hpk hpp
      go_wp2
      go_roundw
      case rel => exact ⟨k + 1, _, by go_num, rfl, by omega, HN, Br⟩
      case measure => clear HN; simp only [intOf, Int.toNat_natCast]; omega
    · have HN := Lib.hid (show n = numF b xs by have := hn.out; rwa [List.take_of_length_le hk] at this)
      go_wp2
      go_ret
      exact ⟨ret_int HN.out, Br⟩
theorem quo_gt {b o : Int} (hb : 2 ≤ b) : 1000000000 / b < o ↔ 1000000000 < o * b := by
  rw [Int.ediv_lt_iff_lt_mul (by omega)]
theorem ret_iib' {a b c d : Int} {x y : Bool} (h : a = b) (h' : c = d) (h'' : x = y) : Ending.returned (.tuple #[.int .i64 a, .int .i64 c, .bool x]) = .returned (.tuple #[.int .i64 b, .int .i64 d, .bool y]) := by rw [h, h', h'']
set_option maxRecDepth 100000 in
set_option maxHeartbeats 1600000 in
theorem val_any {b : Int} (va : Value) (xs : List Int) (w : World) (hb : 2 ≤ b ∧ b ≤ 36) (ha : Sl w va xs) (hl : xs.length ≤ 1048576) (hd : ∀ x ∈ xs, 0 ≤ x ∧ x ≤ b - 1) :
    Calls Try.prog 79 #[va, .int .i64 b] w fun e w' => e = .returned (if b ^ xs.length ≤ 1000000000 then .tuple #[.int .i64 (numF b xs), .int .i64 (b ^ xs.length), .bool true] else .tuple #[.int .i64 0, .int .i64 0, .bool false]) ∧ Bl w w' := by
  obtain ⟨av, cv, rfl, hcv⟩ := ha.form'
  obtain ⟨RV, hRV⟩ : ∃ RV : Value, RV = (if b ^ xs.length ≤ 1000000000 then .tuple #[.int .i64 (numF b xs), .int .i64 (b ^ xs.length), .bool true] else .tuple #[.int .i64 0, .int .i64 0, .bool false]) := ⟨_, rfl⟩
  rw [← hRV]
  have HRV := Lib.hid hRV
  have HA := Lib.hid ha
  have HD := Lib.hid hd
  clear ha hd hRV
  go_enter Try.func79, Try.ntmps79
  go_wp2
  go_loopw [7, 8, 9] (fun s7 s8 s9 wr => ∃ (k : Nat) (n o : Int), s9 = .int .i64 k ∧ s7 = .int .i64 n ∧ s8 = .int .i64 o ∧ k ≤ xs.length ∧ Hid (n = numF b (xs.take k)) ∧ Hid (o = b ^ k) ∧ 1 ≤ o ∧ o ≤ 1000000000 ∧ Bl w wr) (fun _ _ s9 _ => xs.length - (intOf s9).toNat)
  case atStart => exact ⟨0, 0, 1, rfl, rfl, rfl, Nat.zero_le _, Lib.hid (by simp [numF]), Lib.hid (by simp), by omega, by omega, bl_refl _⟩
  case round =>
    rcases hrel with ⟨k, n, o, rfl, rfl, rfl, hkl, hn, ho, h1, h2, Br⟩
    have HO := Lib.hid (show o * b = b ^ (k + 1) by rw [ho.out, Int.pow_succ])
    rcases Nat.lt_or_ge k xs.length with hk | hk
    · obtain ⟨bb, oo, rfl, x, hx, cx, rx⟩ := HA.out.cellAt' Br hk
      have hxd := HD.out x (List.mem_of_getElem? hx)
      have HN := Lib.hid (show n * b + x = numF b (xs.take (k + 1)) by rw [numF_snoc hx, hn.out])
      have bd := numF_bd hb.1 HD.out k hkl
      rw [← hn.out, ← ho.out] at bd
      have hb2 : 0 ≤ n ∧ n ≤ 1000000000 := by omega
      have a1 := Int.mul_nonneg hb2.1 (show 0 ≤ b by omega)
      have a2 := Int.mul_le_mul hb2.2 hb.2 (show 0 ≤ b by omega) (by omega)
      have hge := Int.mul_le_mul_of_nonneg_left (show 1 ≤ b by omega) (show 0 ≤ o by omega)
      have hup := Int.mul_le_mul_of_nonneg_left hb.2 (show 0 ≤ o by omega)
      have qg := quo_gt (o := o) hb.1
      clear hx bd
      rcases Int.lt_or_le 1000000000 (o * b) with hq | hq
      · have hdq : decide (1000000000 / b < o) = true := by rw [decide_eq_true_iff]; exact qg.2 hq
        have HV := Lib.hid (show RV = .tuple #[.int .i64 0, .int .i64 0, .bool false] by
          rw [HRV.out, if_neg]
          have := pow_le hb.1 (show k + 1 ≤ xs.length by omega)
          rw [← HO.out] at this
          omega)
        clear qg
        go_wp2
        go_ret3
        rw [HV.out]
        exact ⟨rfl, Br⟩
      · have hdq : decide (1000000000 / b < o) = false := by rw [decide_eq_false_iff_not]; intro h; have := qg.1 h; omega
        clear qg
        go_wp2
        go_roundw
        case rel => exact ⟨k + 1, _, _, by go_num, rfl, rfl, by omega, HN, HO, by omega, by omega, Br⟩
        case measure => clear HN HO; simp only [intOf, Int.toNat_natCast]; omega
    · have e : k = xs.length := by omega
      have HN := Lib.hid (show RV = .tuple #[.int .i64 n, .int .i64 o, .bool true] by
        have h3 := hn.out; rw [List.take_of_length_le hk] at h3
        have h4 := ho.out; rw [e] at h4
        rw [HRV.out, if_pos (by omega), h3, h4])
      clear e
      go_wp2
      go_ret3
      rw [HN.out]
      exact ⟨rfl, Br⟩

end Go.Proofs.Yteejfiflidfciaa
