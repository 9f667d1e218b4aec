/- Some of the texts of this claim, joined in one file: Val, Conv, DfV. -/
import Derived.Test.YtndblondleclpaaGreatDoorMB2
import Derived.Test.YtndblondleclpaaGreatDoorAppF
import Derived.Test.YtndblondleclpaaGreatDoorLawI
import Derived.Test.YtndblondleclpaaGreatDoorOk
/- Whether a list is one of terms: the program's test and the reference's. Each theorem names its conditions. -/
namespace Go.Proofs.YtndblondleclpaaGreatDoor
open Go.RowKit
set_option linter.unusedVariables false
set_option linter.unusedSimpArgs false

/-- Are the numbers terms? -/
def termsP (xs : List Int) : Bool :=
  decide (1 ≤ xs.length ∧ xs.length ≤ 60) && inB (xs.getD 0 0) (-1000000000) 1000000000 && !(xs.tail.any fun x => (!inB x 1 1000000000))
theorem Sl.from1 {w : World} {n c : Nat} {b o : Nat} {xs : List Int} (h : Sl w (.slice (some ⟨b, o, none⟩) n c) xs) (hn : 1 ≤ xs.length) : Sl w (.slice (some ⟨b, o + 1, none⟩) (n - 1) (c - 1)) xs.tail := by
  obtain ⟨a', cap, e, h1, h2, h3, h4, h5⟩ := h
  simp only [Value.slice.injEq] at e
  obtain ⟨rfl, rfl, rfl⟩ := e
  refine ⟨some ⟨b, o + 1, none⟩, c - 1, by simp, by simp; omega, by unfold maxLen at *; omega, fun x hx => h3 x (List.mem_of_mem_tail hx), by simp, ?_⟩
  rcases h5 with h5 | ⟨b', off, e, hc⟩
  · subst h5; simp at hn
  · simp only [Option.some.injEq, Addr.mk.injEq] at e
    obtain ⟨rfl, rfl, _⟩ := e
    refine .inr ⟨_, _, rfl, fun i x hx => ?_⟩
    rw [List.getElem?_tail] at hx
    have := hc (i + 1) x hx
    rw [show o + 1 + i = o + (i + 1) by omega]
    exact this
set_option maxHeartbeats 400000 in
theorem sizeI_any (a : Option Addr) (n c : Nat) (w : World) (hn : n ≤ 9223372036854775807) : Calls Tryz.prog 54 #[.slice a n c] w fun e w' => e = .returned (.int .i64 n) ∧ w = w' := lsize_any a n c w hn

set_option maxRecDepth 100000 in
set_option maxHeartbeats 1600000 in
theorem ivalT_any (va : Value) (xs : List Int) (w : World) (ha : Sl w va xs) (hl : xs.length ≤ 1048576) :
    Calls Tryz.prog 94 #[va] w fun e w' => e = .returned (.bool (termsP xs)) ∧ Bl w w' := by
  obtain ⟨av, cv, rfl, hcv⟩ := ha.form'
  cases e1 : inB (xs.length : Int) 1 60 with
  | false =>
    have HR := Lib.hid (show false = termsP xs by
      have : ¬ (1 ≤ xs.length ∧ xs.length ≤ 60) := fun h => by rw [inB_iff.2 (by omega)] at e1; cases e1
      simp [termsP, this])
    have E1 := Lib.hid e1
    clear e1
    go_enter Tryz.func94, Tryz.ntmps94
    go_wp2_with (go_at_call 54; refine (lsize_any _ _ _ _ (by omega)).mono ?_; rintro e w9 ⟨rfl, rfl⟩)
    refine (inB_eq E1.out _).mono ?_
    rintro e w9 ⟨rfl, rfl⟩
    go_wp2
    go_ret
    exact ⟨ret_bool HR.out, bl_refl _⟩
  | true =>
    have hb := inB_iff.1 e1
    have h1 : 1 ≤ xs.length ∧ xs.length ≤ 60 := by omega
    obtain ⟨b, o, rfl, x, hx, cx, rx⟩ := ha.cellAt' (bl_refl w) (k := 0) (by omega)
    have hx0 : xs.getD 0 0 = x := by simp [hx]
    rw [Nat.add_zero] at cx
    have E1 := Lib.hid e1
    clear e1
    cases e2 : inB x (-1000000000) 1000000000 with
    | false =>
      have HR := Lib.hid (show false = termsP xs by simp only [termsP, hx0, e2]; simp)
      have E2 := Lib.hid e2
      clear e2 hx hx0
      go_enter Tryz.func94, Tryz.ntmps94
      go_wp2_with (go_at_call 54; refine (lsize_any _ _ _ _ (by omega)).mono ?_; rintro e w9 ⟨rfl, rfl⟩)
      refine (inB_eq E1.out _).mono ?_
      rintro e w9 ⟨rfl, rfl⟩
      go_wp2_with fail
      refine (inB_eq E2.out _).mono ?_
      rintro e w9 ⟨rfl, rfl⟩
      go_wp2
      go_ret
      exact ⟨ret_bool HR.out, bl_refl _⟩
    | true =>
      have HR := Lib.hid (show (!(xs.tail.any fun x => (!inB x 1 1000000000))) = termsP xs by simp only [termsP, hx0, e2]; simp [h1])
      have E2 := Lib.hid e2
      clear e2 hx hx0
      have hi1 : (1 : Int) ≤ (xs.length : Int) := by omega
      have hi2 : (xs.length : Int) ≤ (cv : Int) := by omega
      by_cases hc1 : cv = 1
      · subst hc1
        have hl1 : xs.length = 1 := by omega
        obtain ⟨y, rfl⟩ := List.length_eq_one_iff.1 hl1
        have hd : ∀ W : World, Sl W (.slice (some ⟨b, o, none⟩) 0 0) [] := fun W => ⟨_, 0, rfl, Nat.le_refl _, by simp [maxLen], by simp, by simp, .inl rfl⟩
        have HD := Lib.hid hd
        have ha' := Lib.hid ha
        clear hd ha hl1
        go_enter Tryz.func94, Tryz.ntmps94
        go_wp2_with (go_at_call 54; refine (lsize_any _ _ _ _ (by omega)).mono ?_; rintro e w9 ⟨rfl, rfl⟩)
        refine (inB_eq E1.out _).mono ?_
        rintro e w9 ⟨rfl, rfl⟩
        go_wp2_with fail
        refine (inB_eq E2.out _).mono ?_
        rintro e w9 ⟨rfl, rfl⟩
        go_wp2_with fail
        refine (contT_any _ [] _ (HD.out _) (by simp)).mono ?_
        rintro e w1 ⟨rfl, hb1⟩
        go_wp2
        go_ret
        exact ⟨ret_bool (by have := HR.out; simpa using this), hb1⟩
      · have hc2 : (cv == 1) = false := by simp [hc1]
        have hc3 : 1 < cv := by omega
        have hd := Lib.hid (ha.from1 h1.1)
        clear hc1
        go_enter Tryz.func94, Tryz.ntmps94
        go_wp2_with (go_at_call 54; refine (lsize_any _ _ _ _ (by omega)).mono ?_; rintro e w9 ⟨rfl, rfl⟩)
        refine (inB_eq E1.out _).mono ?_
        rintro e w9 ⟨rfl, rfl⟩
        go_wp2_with fail
        refine (inB_eq E2.out _).mono ?_
        rintro e w9 ⟨rfl, rfl⟩
        go_wp2_with fail
        refine (contT_any _ xs.tail _ hd.out (by simp; omega)).mono ?_
        rintro e w1 ⟨rfl, hb1⟩
        go_wp2
        go_ret
        exact ⟨ret_bool HR.out, hb1⟩
theorem sinB_eq {n lo hi : Int} {b : Bool} (h : inB n lo hi = b) (w : World) : Calls Tryz.prog 49 #[.int .i64 n, .int .i64 lo, .int .i64 hi] w fun e w' => e = .returned (.bool b) ∧ w = w' := h ▸ in_any n lo hi w

/-- The least term at a place. -/
def lowT (i : Nat) : Int := if i = 0 then -1000000000 else 1
theorem termsP_iff {xs : List Int} : termsP xs = true ↔ (1 ≤ xs.length ∧ xs.length ≤ 60) ∧ ∀ (i : Nat) (x : Int), xs[i]? = some x → inB x (lowT i) 1000000000 = true := by
  unfold termsP
  simp only [Bool.and_eq_true, decide_eq_true_eq, Bool.not_eq_true', List.any_eq_false]
  constructor
  · rintro ⟨⟨h1, h2⟩, h3⟩
    refine ⟨h1, fun i x hx => ?_⟩
    cases i with
    | zero => simp [hx] at h2; exact h2
    | succ i =>
      have := h3 x (List.mem_of_getElem? (i := i) (by rw [List.getElem?_tail]; exact hx))
      simpa [lowT] using this
  · rintro ⟨h1, h2⟩
    refine ⟨⟨h1, ?_⟩, fun x hx => ?_⟩
    · have hx : xs[0]? = some xs[0] := List.getElem?_eq_getElem (by omega)
      have := h2 0 _ hx
      simp [hx]
      exact this
    · obtain ⟨i, hi⟩ := List.getElem?_of_mem hx
      rw [List.getElem?_tail] at hi
      have := h2 (i + 1) x hi
      simpa [lowT] using this
theorem termsP_no {xs : List Int} {i : Nat} {x : Int} (hx : xs[i]? = some x) (h : inB x (lowT i) 1000000000 = false) : false = termsP xs := by
  cases e : termsP xs with
  | false => rfl
  | true => have := (termsP_iff.1 e).2 i x hx; rw [h] at this; cases this
set_option maxRecDepth 100000 in
set_option maxHeartbeats 1600000 in
theorem svalT_any (va : Value) (xs : List Int) (w : World) (ha : Sl w va xs) (hl : xs.length ≤ 1048576) :
    Calls Tryz.prog 96 #[va] w fun e w' => e = .returned (.bool (termsP xs)) ∧ Bl w w' := by
  obtain ⟨av, cv, rfl, hcv⟩ := ha.form'
  have HA := Lib.hid ha
  clear ha
  go_enter Tryz.func96, Tryz.ntmps96
  go_wp2
  go_loopw [3, 4] (fun s3 s4 wr => ∃ k : Nat, s3 = .int .i64 k ∧ k ≤ xs.length ∧ Hid (∀ (i : Nat) (x : Int), i < k → xs[i]? = some x → inB x (lowT i) 1000000000 = true) ∧ Bl w wr) (fun s3 _ _ => xs.length - (intOf s3).toNat)
  case atStart => exact ⟨0, rfl, Nat.zero_le _, Lib.hid (fun i x hi => absurd hi (Nat.not_lt_zero _)), bl_refl _⟩
  case round =>
    rcases hrel with ⟨k, rfl, hkl, hG, Br⟩
    rcases Nat.lt_or_ge k xs.length with hk | hk
    · obtain ⟨bb, oo, rfl, x, hx, cx, rx⟩ := HA.out.cellAt' Br hk
      have HX := Lib.hid hx
      clear hx
      have hlow : lowT k = if k = 0 then -1000000000 else 1 := rfl
      cases hp : inB x (lowT k) 1000000000 with
      | false =>
        have HR := Lib.hid (termsP_no HX.out hp)
        rcases Nat.eq_zero_or_pos k with h0 | h0
        all_goals
          first | (rw [hlow, if_pos h0] at hp) | (rw [hlow, if_neg (by omega)] at hp)
          have HP := Lib.hid hp
          clear hp hlow
          first | (subst h0; rw [Nat.add_zero] at cx) | (have hb : ((k : Int) == 0) = false := beq_eq_false_iff_ne.2 (by omega))
          go_wp2_with fail
          refine (sinB_eq HP.out _).mono ?_
          rintro e w9 ⟨rfl, rfl⟩
          go_wp2
          go_ret
          exact ⟨ret_bool HR.out, Br⟩
      | true =>
        have HN := Lib.hid (show ∀ (i : Nat) (x : Int), i < k + 1 → xs[i]? = some x → inB x (lowT i) 1000000000 = true from fun i y hi hy => by
          rcases Nat.lt_or_ge i k with q | q
          · exact hG.out i y q hy
          · obtain rfl : i = k := by omega
            rw [HX.out] at hy
            exact Option.some.inj hy ▸ hp)
        rcases Nat.eq_zero_or_pos k with h0 | h0
        all_goals
          first | (rw [hlow, if_pos h0] at hp) | (rw [hlow, if_neg (by omega)] at hp)
          have HP := Lib.hid hp
          clear hp hlow
          first | (subst h0; rw [Nat.add_zero] at cx) | (have hb : ((k : Int) == 0) = false := beq_eq_false_iff_ne.2 (by omega))
          go_wp2_with fail
          refine (sinB_eq HP.out _).mono ?_
          rintro e w9 ⟨rfl, rfl⟩
          go_wp2
          go_roundw
          case rel => exact ⟨_, by go_num, by omega, HN, Br⟩
          case measure => clear HN; simp [intOf]; omega
    · have HN := Lib.hid (show ∀ (i : Nat) (x : Int), xs[i]? = some x → inB x (lowT i) 1000000000 = true from fun i x hx => hG.out i x (Nat.lt_of_lt_of_le (List.getElem?_eq_some_iff.1 hx).1 hk) hx)
      cases e1 : inB (xs.length : Int) 1 60 with
      | false =>
        have HR := Lib.hid (show false = termsP xs by
          cases e : termsP xs with
          | false => rfl
          | true => have := (termsP_iff.1 e).1; rw [inB_iff.2 (by omega)] at e1; cases e1)
        have E1 := Lib.hid e1
        clear e1
        go_wp2_with fail
        refine (sinB_eq E1.out _).mono ?_
        rintro e w9 ⟨rfl, rfl⟩
        go_wp2
        go_ret
        exact ⟨ret_bool HR.out, Br⟩
      | true =>
        have HR := Lib.hid (show true = termsP xs from (termsP_iff.2 ⟨by have := inB_iff.1 e1; omega, HN.out⟩).symm)
        have E1 := Lib.hid e1
        clear e1
        go_wp2_with fail
        refine (sinB_eq E1.out _).mono ?_
        rintro e w9 ⟨rfl, rfl⟩
        go_wp2
        go_ret
        exact ⟨ret_bool HR.out, Br⟩

end Go.Proofs.YtndblondleclpaaGreatDoor

/- The convergents of terms: the program and the reference. Each theorem names its conditions. -/
namespace Go.Proofs.YtndblondleclpaaGreatDoor
open Go.RowKit
set_option linter.unusedVariables false
set_option linter.unusedSimpArgs false

theorem mulb {x y X Y : Int} (h1 : -X ≤ x ∧ x ≤ X) (h2 : -Y ≤ y ∧ y ≤ Y) : -(X * Y) ≤ x * y ∧ x * y ≤ X * Y := by
  have hX : 0 ≤ X := by omega
  have hY : 0 ≤ Y := by omega
  have a1 := Int.mul_nonneg (show 0 ≤ X - x by omega) (show 0 ≤ Y - y by omega)
  have a2 := Int.mul_nonneg (show 0 ≤ X + x by omega) (show 0 ≤ Y + y by omega)
  have a3 := Int.mul_nonneg (show 0 ≤ X - x by omega) (show 0 ≤ Y + y by omega)
  have a4 := Int.mul_nonneg (show 0 ≤ X + x by omega) (show 0 ≤ Y - y by omega)
  have e1 : (X - x) * (Y - y) = X * Y - X * y - x * Y + x * y := by grind
  have e2 : (X + x) * (Y + y) = X * Y + X * y + x * Y + x * y := by grind
  have e3 : (X - x) * (Y + y) = X * Y + X * y - x * Y - x * y := by grind
  have e4 : (X + x) * (Y - y) = X * Y - X * y + x * Y - x * y := by grind
  omega
/-- The convergents behind a state, if all are plain. -/
def convG : List Int → Int → Int → Int → Int → Option (List (Int × Int))
  | [], _, _, _, _ => some []
  | t :: ts, p, q, p0, q0 => if okF (t * p + p0) (t * q + q0) then (convG ts (t * p + p0) (t * q + q0) p q).map ((t * p + p0, t * q + q0) :: ·) else none
def convL (xs : List Int) : Option (List (Int × Int)) := convG xs 1 0 0 1
theorem drop_cons {xs : List Int} {k : Nat} {t : Int} (h : xs[k]? = some t) : xs.drop k = t :: xs.drop (k + 1) := by
  obtain ⟨h1, h2⟩ := List.getElem?_eq_some_iff.1 h
  rw [List.drop_eq_getElem_cons h1, h2]
theorem convG_no {xs : List Int} {k : Nat} {t p q p0 q0 : Int} {fs : List (Int × Int)} {R : Option (List (Int × Int))} (h : xs[k]? = some t) (hr : R = (convG (xs.drop k) p q p0 q0).map (fs ++ ·)) (ho : okF (t * p + p0) (t * q + q0) = false) : R = none := by
  rw [hr, drop_cons h, convG, ho]
  rfl
theorem convG_yes {xs : List Int} {k : Nat} {t p q p0 q0 : Int} {fs : List (Int × Int)} {R : Option (List (Int × Int))} (h : xs[k]? = some t) (hr : R = (convG (xs.drop k) p q p0 q0).map (fs ++ ·)) (ho : okF (t * p + p0) (t * q + q0) = true) : R = (convG (xs.drop (k + 1)) (t * p + p0) (t * q + q0) p q).map ((fs ++ [(t * p + p0, t * q + q0)]) ++ ·) := by
  rw [hr, drop_cons h, convG, ho, if_pos rfl, Option.map_map]
  congr 1
  funext l
  simp
theorem convG_end {xs : List Int} {k : Nat} {p q p0 q0 : Int} {fs : List (Int × Int)} {R : Option (List (Int × Int))} (h : xs.length ≤ k) (hr : R = (convG (xs.drop k) p q p0 q0).map (fs ++ ·)) : R = some fs := by
  rw [hr, List.drop_eq_nil_of_le h, convG]
  simp
theorem convG_len {xs : List Int} : ∀ {p q p0 q0 : Int} {fs : List (Int × Int)}, convG xs p q p0 q0 = some fs → fs.length = xs.length := by
  induction xs with
  | nil => intro p q p0 q0 fs h; simp [convG] at h; subst h; rfl
  | cons t ts ih =>
    intro p q p0 q0 fs h
    rw [convG] at h
    split at h
    · obtain ⟨l, hl, rfl⟩ := Option.map_eq_some_iff.1 h
      simp [ih hl]
    · cases h
theorem convG_ok {xs : List Int} : ∀ {p q p0 q0 : Int} {fs : List (Int × Int)}, convG xs p q p0 q0 = some fs → ∀ f ∈ fs, okF f.1 f.2 = true := by
  induction xs with
  | nil => intro p q p0 q0 fs h; simp [convG] at h; subst h; simp
  | cons t ts ih =>
    intro p q p0 q0 fs h
    rw [convG] at h
    split at h
    · rename_i ho
      obtain ⟨l, hl, rfl⟩ := Option.map_eq_some_iff.1 h
      intro f hf
      rcases List.mem_cons.1 hf with rfl | hf
      · exact ho
      · exact ih hl f hf
    · cases h
theorem validF_eq' {n d : Int} {b : Bool} (h : okF n d = b) (w : World) : Calls Tryz.prog 78 #[.agg #[.int .i64 n, .int .i64 d]] w fun e w' => e = .returned (.bool b) ∧ Bl w w' := h ▸ validF_any n d w
theorem ok_eq' {n d : Int} {b : Bool} (h : okF n d = b) (w : World) : Calls Tryz.prog 82 #[.agg #[.int .i64 n, .int .i64 d]] w fun e w' => e = .returned (.bool b) ∧ Bl w w' := h ▸ ok_any n d w
theorem ret_fb {v : Value} {R : Option (List (Int × Int))} {b : Bool} (h : R.isSome = b) : Ending.returned (.tuple #[v, .bool b]) = .returned (.tuple #[v, .bool R.isSome]) := by rw [h]

set_option maxRecDepth 100000 in
set_option maxHeartbeats 3200000 in
theorem convI_any (va : Value) (xs : List Int) (w : World) (ha : Sl w va xs) (hl : xs.length ≤ 1000000) (hb : ∀ x ∈ xs, -1000000000 ≤ x ∧ x ≤ 1000000000) :
    Calls Tryz.prog 132 #[va] w fun e w' => ∃ a n c, e = .returned (.tuple #[.slice a n c, .bool (convL xs).isSome]) ∧ OwnF w' w.heap.size (.slice a n c) ((convL xs).getD []) ∧ Bl w w' := by
  obtain ⟨av, cv, rfl, hcv⟩ := ha.form
  obtain ⟨R, hR⟩ : ∃ R, R = convL xs := ⟨_, rfl⟩
  rw [← hR]
  have HR0 := Lib.hid hR
  clear hR
  have HB := Lib.hid hb
  have HA := Lib.hid ha
  clear hb ha
  obtain ⟨i0, hi, hz0, hz1, hz2⟩ := info_parts info_fr
  go_enter Tryz.func132, Tryz.ntmps132
  go_wp2_with (at_make; refine wpList_make_own _ rfl _ _ 119 rfl w.heap.size 45 i0 (.agg #[.int .i64 0, .int .i64 0]) 2 Tryz.underlying119 hi hz0 hz1 .i64 .i64 _ xs.length rfl rfl rfl (by rw [hz2]; omega) (by unfold maxLen; omega) (Nat.le_refl _) ?_; intro w1 hown hgrow)
  have B1 : Bl w w1 := below_of_grown hgrow
  clear hgrow
  go_loopw [4, 5, 6, 7, 8, 17, 10, 11] (fun s4 s5 s6 s7 s8 s17 s10 s11 wr => ∃ (k : Nat) (fs : List (Int × Int)) (a : Option Addr) (c : Nat) (p q p0 q0 : Int), s17 = .int .i64 k ∧ s4 = .slice a fs.length c ∧ s5 = .int .i64 p ∧ s6 = .int .i64 q ∧ s7 = .int .i64 p0 ∧ s8 = .int .i64 q0 ∧ k ≤ xs.length ∧ fs.length = k ∧ OwnF wr w.heap.size (.slice a fs.length c) fs ∧ Hid (R = (convG (xs.drop k) p q p0 q0).map (fs ++ ·)) ∧ -1000000000 ≤ p ∧ p ≤ 1000000000 ∧ -1000000000 ≤ q ∧ q ≤ 1000000000 ∧ -1000000000 ≤ p0 ∧ p0 ≤ 1000000000 ∧ -1000000000 ≤ q0 ∧ q0 ≤ 1000000000 ∧ Bl w wr) (fun _ _ _ _ _ s17 _ _ _ => xs.length - (intOf s17).toNat)
  case atStart => exact ⟨0, [], _, _, 1, 0, 0, 1, rfl, rfl, rfl, rfl, rfl, rfl, Nat.zero_le _, rfl, hown, Lib.hid (by rw [HR0.out, convL]; simp), by omega, by omega, by omega, by omega, by omega, by omega, by omega, by omega, B1⟩
  case round =>
    rcases hrel with ⟨k, fs, a, c, p, q, p0, q0, rfl, rfl, rfl, rfl, rfl, rfl, hkl, hfk, ho, hx, p1, p2, p3, p4, p5, p6, p7, p8, Br⟩
    subst hfk
    have HO := Lib.hid ho
    clear ho
    rcases Nat.lt_or_ge fs.length xs.length with hk | hk
    ·
      obtain ⟨bb, oo, rfl, t, ht, ct, rt⟩ := HA.out.cellAt' Br hk
      have htb := HB.out t (List.mem_of_getElem? ht)
      have HT := Lib.hid ht
      clear ht
      have m1 := mulb htb (show -1000000000 ≤ p ∧ p ≤ 1000000000 by omega)
      have m2 := mulb htb (show -1000000000 ≤ q ∧ q ≤ 1000000000 by omega)
      cases e1 : okF (t * p + p0) (t * q + q0) with
      | false =>
        have E1 := Lib.hid e1
        clear e1
        have HX := Lib.hid (convG_no HT.out hx.out E1.out)
        go_wp2_with fail
        refine (validF_eq' E1.out _).mono ?_
        rintro e wr1 ⟨rfl, hbr1⟩
        have Br1 : Bl w wr1 := bl_call (bl_alloc Br _) hbr1
        have xP_r1 : Bx wr1 (wr.heap.size) #[.int .i64 (t * p + p0), .int .i64 (t * q + q0)] := (Bx.new (b := wr.heap.size) _ #[.int .i64 (t * p + p0), .int .i64 (t * q + q0)] 45 (by first | rfl | simp)).below hbr1
        obtain ⟨cP_r1, fP_r1, zP_r1⟩ := xP_r1.out
        go_wp2
        go_ret2
        exact ⟨none, 0, 0, ret_fb (by rw [HX.out]; rfl), by rw [HX.out]; exact OwnF.nil _ _, Br1⟩
      | true =>
        have kb := okF_iff.1 e1
        have E1 := Lib.hid e1
        clear e1
        have HX := Lib.hid (convG_yes HT.out hx.out E1.out)
        go_wp2_with fail
        refine (validF_eq' E1.out _).mono ?_
        rintro e wr1 ⟨rfl, hbr1⟩
        have Br1 : Bl w wr1 := bl_call (bl_alloc Br _) hbr1
        have xP_r1 : Bx wr1 (wr.heap.size) #[.int .i64 (t * p + p0), .int .i64 (t * q + q0)] := (Bx.new (b := wr.heap.size) _ #[.int .i64 (t * p + p0), .int .i64 (t * q + q0)] 45 (by first | rfl | simp)).below hbr1
        obtain ⟨cP_r1, fP_r1, zP_r1⟩ := xP_r1.out
        have HO1 := Lib.hid ((HO.out.alloc _).below hbr1)
        go_wp2_with (at_builtin; refine wpList_append_frac rfl _ _ rfl w.heap.size _ fs (by rfl) HO1.out _ _ (by rfl) (by omega) (Br1.size) ?_; intro v' wn ho hg hat; obtain ⟨a1, c1, rfl, _⟩ := ho.form)
        have BN := bl_grown Br1 hg (fun k hk => (HO1.out.lt k hk).1)
        clear hg hat
        have HO2 := Lib.hid ho
        clear ho
        go_wp2
        go_roundw
        case rel => exact ⟨fs.length + 1, fs ++ [(t * p + p0, t * q + q0)], a1, c1, _, _, _, _, by go_num, by simp, rfl, rfl, rfl, rfl, by omega, by simp, HO2.out, HX, by omega, by omega, by omega, by omega, by omega, by omega, by omega, by omega, BN⟩
        case measure => clear HX; simp only [intOf, Int.toNat_natCast]; omega
    · have HX := Lib.hid (convG_end hk hx.out)
      go_wp2
      go_ret2
      exact ⟨a, fs.length, c, ret_fb (by rw [HX.out]; rfl), by rw [HX.out]; exact HO.out, Br⟩

set_option maxHeartbeats 400000 in
theorem cnew_any (w : World) : Calls Tryz.prog 157 #[] w fun e w' => e = .returned (.agg #[.int .i64 1, .int .i64 0, .int .i64 0, .int .i64 1]) ∧ Bl w w' := by
  go_enter Tryz.func157, Tryz.ntmps157
  go_wp2
  refine bodyPost_ret (v := .agg #[.int .i64 1, .int .i64 0, .int .i64 0, .int .i64 1]) (by simp only [results, Tryz.results157]; go_simp) rfl ⟨rfl, ?_⟩
  repeat first | (with_reducible exact bl_refl _) | (with_reducible refine bl_alloc ?_ _) | (with_reducible refine bl_set ?_ (by first | exact Nat.le_refl _ | (simp; done) | (simp; omega)) _)
set_option maxRecDepth 100000 in
set_option maxHeartbeats 800000 in
theorem cnext_any (p q p0 q0 t : Int) (w : World) (m1 : -1000000000000000000 ≤ t * p ∧ t * p ≤ 1000000000000000000) (m2 : -1000000000000000000 ≤ t * q ∧ t * q ≤ 1000000000000000000) (h1 : -1000000000 ≤ p0 ∧ p0 ≤ 1000000000) (h2 : -1000000000 ≤ q0 ∧ q0 ≤ 1000000000) :
    Calls Tryz.prog 158 #[.agg #[.int .i64 p, .int .i64 q, .int .i64 p0, .int .i64 q0], .int .i64 t] w fun e w' => e = .returned (.agg #[.int .i64 (t * p + p0), .int .i64 (t * q + q0), .int .i64 p, .int .i64 q]) ∧ Bl w w' := by
  go_enter Tryz.func158, Tryz.ntmps158
  go_wp2
  refine bodyPost_ret (v := .agg #[.int .i64 (t * p + p0), .int .i64 (t * q + q0), .int .i64 p, .int .i64 q]) (by simp only [results, Tryz.results158]; go_simp) rfl ⟨rfl, ?_⟩
  repeat first | (with_reducible exact bl_refl _) | (with_reducible refine bl_alloc ?_ _) | (with_reducible refine bl_set ?_ (by first | exact Nat.le_refl _ | (simp; done) | (simp; omega)) _)

set_option maxRecDepth 100000 in
set_option maxHeartbeats 3200000 in
theorem convS_any (va : Value) (xs : List Int) (w : World) (ha : Sl w va xs) (hl : xs.length ≤ 1000000) (hb : ∀ x ∈ xs, -1000000000 ≤ x ∧ x ≤ 1000000000) :
    Calls Tryz.prog 134 #[va] w fun e w' => ∃ a n c, e = .returned (.tuple #[.slice a n c, .bool (convL xs).isSome]) ∧ OwnF w' w.heap.size (.slice a n c) ((convL xs).getD []) ∧ Bl w w' := by
  obtain ⟨av, cv, rfl, hcv⟩ := ha.form
  obtain ⟨R, hR⟩ : ∃ R, R = convL xs := ⟨_, rfl⟩
  rw [← hR]
  have HR0 := Lib.hid hR
  clear hR
  have HB := Lib.hid hb
  have HA := Lib.hid ha
  clear hb ha
  go_enter Tryz.func134, Tryz.ntmps134
  go_wp2_with fail
  refine (cnew_any _).mono ?_
  rintro e w1 ⟨rfl, hb1⟩
  have B1 : Bl w w1 := bl_call (bl_alloc (bl_refl _) _) hb1
  have HO := Lib.hid (((ownF_made w rfl (Nat.le_refl w.heap.size)).below hb1).alloc (.cells #[.int .i64 1, .int .i64 0, .int .i64 0, .int .i64 1] 170))
  go_wp2_with fail
  have B2 : Bl w (w1.alloc (.cells #[.int .i64 1, .int .i64 0, .int .i64 0, .int .i64 1] 170)) := (bl_alloc B1 _)
  have xC_2 : Bx (w1.alloc (.cells #[.int .i64 1, .int .i64 0, .int .i64 0, .int .i64 1] 170)) (w1.heap.size) #[.int .i64 1, .int .i64 0, .int .i64 0, .int .i64 1] := (Bx.new (b := w1.heap.size) _ #[.int .i64 1, .int .i64 0, .int .i64 0, .int .i64 1] 170 (by first | rfl | simp))
  have zz2 : w1.heap.size + 1 ≤ (w1.alloc (.cells #[.int .i64 1, .int .i64 0, .int .i64 0, .int .i64 1] 170)).heap.size := (by simp)
  generalize (w1.alloc (.cells #[.int .i64 1, .int .i64 0, .int .i64 0, .int .i64 1] 170)) = w2 at *
  obtain ⟨cC_2, fC_2, zC_2⟩ := xC_2.out
  go_loopw [4, 6, 7] (fun s4 s6 s7 wr => ∃ (fs : List (Int × Int)) (a : Option Addr) (c : Nat) (p q p0 q0 : Int), s6 = .int .i64 fs.length ∧ s4 = .slice a fs.length c ∧ fs.length ≤ xs.length ∧ OwnF wr w.heap.size (.slice a fs.length c) fs ∧ Hid (∀ k, (Value.slice a fs.length c).ownBlock = some k → k ≠ w1.heap.size) ∧ Hid (R = (convG (xs.drop fs.length) p q p0 q0).map (fs ++ ·)) ∧ -1000000000 ≤ p ∧ p ≤ 1000000000 ∧ -1000000000 ≤ q ∧ q ≤ 1000000000 ∧ -1000000000 ≤ p0 ∧ p0 ≤ 1000000000 ∧ -1000000000 ≤ q0 ∧ q0 ≤ 1000000000 ∧ Bx wr (w1.heap.size) #[.int .i64 p, .int .i64 q, .int .i64 p0, .int .i64 q0] ∧ Bl w wr) (fun _ s6 _ _ => xs.length - (intOf s6).toNat)
  case atStart =>
    refine ⟨[], _, _, 1, 0, 0, 1, rfl, rfl, Nat.zero_le _, HO.out, Lib.hid (fun k hk => ?_), Lib.hid (by rw [HR0.out, convL]; simp), by omega, by omega, by omega, by omega, by omega, by omega, by omega, by omega, xC_2, B2⟩
    have := hb1.size
    simp [Value.ownBlock] at hk this
    omega
  case round =>
    rcases hrel with ⟨fs, a, c, p, q, p0, q0, rfl, rfl, hkl, ho, hne, hx, p1, p2, p3, p4, p5, p6, p7, p8, yC, Br⟩
    have HO1 := Lib.hid ho
    clear ho HO cC_2 fC_2 zC_2
    rcases Nat.lt_or_ge fs.length xs.length with hk | hk
    ·
      obtain ⟨cC, fC, zC⟩ := yC.out
      obtain ⟨bb, oo, rfl, t, ht, ct, rt⟩ := HA.out.cellAt' Br hk
      have htb := HB.out t (List.mem_of_getElem? ht)
      have HT := Lib.hid ht
      clear ht
      have m1 := mulb htb (show -1000000000 ≤ p ∧ p ≤ 1000000000 by omega)
      have m2 := mulb htb (show -1000000000 ≤ q ∧ q ≤ 1000000000 by omega)
      have hi1 : (0 : Int) ≤ (fs.length : Int) := by omega
      have hi2 : (fs.length : Int) < (xs.length : Int) := by omega
      go_wp2_with fail
      go_cut [21] (fun s21 wx => Bx wx (w1.heap.size) #[.int .i64 (t * p + p0), .int .i64 (t * q + q0), .int .i64 p, .int .i64 q] ∧ OwnF wx w.heap.size (.slice a fs.length c) fs ∧ Bl w wx)
      case first =>
        go_region_with (go_at_call 158; go_must (refine (cnext_any p q p0 q0 t _ (by omega) (by omega) (by omega) (by omega)).mono ?_; rintro e wk ⟨rfl, hbk⟩; have Bk : Bl wr wk := bl_call (bl_drew (bl_refl _)) hbk; have yk := yC.below Bk; obtain ⟨cy, fy, zy⟩ := yk.out; have HOk := Lib.hid (HO1.out.below Bk)))
        all_goals (go_wp2_with fail; all_goals go_meet)
        all_goals exact ⟨(((yk.set 0 _).set 1 _).set 2 _).set 3 _, (((HOk.out.far hne.out _).far hne.out _).far hne.out _).far hne.out _, bl_set (bl_set (bl_set (bl_set (bl_call Br Bk) B1.size _) B1.size _) B1.size _) B1.size _⟩
      case rest =>
        obtain ⟨xC, ho2, hj⟩ := hcut
        obtain ⟨w8, rfl⟩ : ∃ x : World, x = wc := ⟨_, rfl⟩
        have B8 : Bl w w8 := hj
        have HO2 := Lib.hid ho2
        clear ho2 HO1 cC fC zC
        obtain ⟨cC, fC, zC⟩ := xC.out
        cases e1 : okF (t * p + p0) (t * q + q0) with
        | false =>
          have E1 := Lib.hid e1
          clear e1
          have HX := Lib.hid (convG_no HT.out hx.out E1.out)
          go_wp2_with fail
          refine (ok_eq' E1.out _).mono ?_
          rintro e wq1 ⟨rfl, hbq1⟩
          have Bq1 : Bl w wq1 := bl_call (bl_alloc B8 _) hbq1
          have xC_q1 : Bx wq1 (w1.heap.size) #[.int .i64 (t * p + p0), .int .i64 (t * q + q0), .int .i64 p, .int .i64 q] := (xC.alloc _).below hbq1
          have xP_q1 : Bx wq1 (w8.heap.size) #[.int .i64 (t * p + p0), .int .i64 (t * q + q0)] := (Bx.new (b := w8.heap.size) _ #[.int .i64 (t * p + p0), .int .i64 (t * q + q0)] 45 (by first | rfl | simp)).below hbq1
          clear cC fC zC
          obtain ⟨cC_q1, fC_q1, zC_q1⟩ := xC_q1.out
          obtain ⟨cP_q1, fP_q1, zP_q1⟩ := xP_q1.out
          go_wp2
          go_ret2
          exact ⟨none, 0, 0, ret_fb (by rw [HX.out]; rfl), by rw [HX.out]; exact OwnF.nil _ _, Bq1⟩
        | true =>
          have kb := okF_iff.1 e1
          have E1 := Lib.hid e1
          clear e1
          have HX := Lib.hid (convG_yes HT.out hx.out E1.out)
          go_wp2_with fail
          refine (ok_eq' E1.out _).mono ?_
          rintro e wq1 ⟨rfl, hbq1⟩
          have Bq1 : Bl w wq1 := bl_call (bl_alloc B8 _) hbq1
          have xC_q1 : Bx wq1 (w1.heap.size) #[.int .i64 (t * p + p0), .int .i64 (t * q + q0), .int .i64 p, .int .i64 q] := (xC.alloc _).below hbq1
          have xP_q1 : Bx wq1 (w8.heap.size) #[.int .i64 (t * p + p0), .int .i64 (t * q + q0)] := (Bx.new (b := w8.heap.size) _ #[.int .i64 (t * p + p0), .int .i64 (t * q + q0)] 45 (by first | rfl | simp)).below hbq1
          clear cC fC zC
          obtain ⟨cC_q1, fC_q1, zC_q1⟩ := xC_q1.out
          obtain ⟨cP_q1, fP_q1, zP_q1⟩ := xP_q1.out
          have HO3 := Lib.hid ((HO2.out.alloc _).below hbq1)
          go_wp2_with (at_builtin; refine wpList_append_frac rfl _ _ rfl w.heap.size _ fs (by rfl) HO3.out _ _ (by rfl) (by omega) (Bq1.size) ?_; intro v' wn ho hg hat; obtain ⟨a1, c1, rfl, _⟩ := ho.form)
          have BN := bl_grown Bq1 hg (fun k hk => (HO3.out.lt k hk).1)
          have xN := xC_q1.grownApartF hg (fun q => hne.out _ q rfl)
          have HN := Lib.hid (show ∀ k, (Value.slice a1 (fs ++ [(t * p + p0, t * q + q0)]).length c1).ownBlock = some k → k ≠ w1.heap.size from fun k hk => by
            have zc := xC_q1.out.2.2
            rcases hat with e | e
            · rw [e] at hk; exact hne.out k hk
            · rw [e] at hk; cases hk; omega)
          clear hg hat
          have HO4 := Lib.hid ho
          clear ho
          go_wp2
          go_roundw
          case rel => exact ⟨fs ++ [(t * p + p0, t * q + q0)], a1, c1, _, _, _, _, by simp, by simp, by simp; omega, HO4.out, HN, by rw [List.length_append]; exact HX, by omega, by omega, by omega, by omega, by omega, by omega, by omega, by omega, xN, BN⟩
          case measure => clear HX; simp only [intOf, Int.toNat_natCast]; omega
    · have HX := Lib.hid (convG_end hk hx.out)
      go_wp2
      go_ret2
      exact ⟨a, fs.length, c, ret_fb (by rw [HX.out]; rfl), by rw [HX.out]; exact HO1.out, Br⟩

end Go.Proofs.YtndblondleclpaaGreatDoor

/- The value of terms that have convergents: the program's ValueOfTerms. Each theorem names its conditions. -/
namespace Go.Proofs.YtndblondleclpaaGreatDoor
open Go.RowKit
set_option linter.unusedVariables false
set_option linter.unusedSimpArgs false

theorem ivalT_eqW {va : Value} {xs : List Int} {b : Bool} (h : termsP xs = b) (w : World) (ha : Sl w va xs) (hl : xs.length ≤ 1048576) : Calls Tryz.prog 94 #[va] w fun e w' => e = .returned (.bool b) ∧ Bl w w' := h ▸ ivalT_any va xs w ha hl
set_option maxRecDepth 100000 in
set_option maxHeartbeats 3200000 in
theorem iconvOf_okW {va : Value} {xs : List Int} {fs : List (Int × Int)} (w : World) (ha : Sl w va xs) (hT : termsP xs = true) (hc : convL xs = some fs) :
    Calls Tryz.prog 103 #[va] w fun e w' => ∃ a c, e = .returned (.tuple #[.slice a fs.length c, .int .i64 0]) ∧ OwnF w' w.heap.size (.slice a fs.length c) fs ∧ Bl w w' := by
  have hl := (termsP_iff.1 hT).1
  have hb : ∀ x ∈ xs, -1000000000 ≤ x ∧ x ≤ 1000000000 := fun x hx => by
    obtain ⟨i, hi⟩ := List.getElem?_of_mem hx
    have := inB_iff.1 ((termsP_iff.1 hT).2 i x hi)
    unfold lowT at this
    split at this <;> omega
  have HT := Lib.hid hT
  have HC := Lib.hid hc
  have HA := Lib.hid ha
  have HB := Lib.hid hb
  obtain ⟨av, cv, rfl, hcv⟩ := ha.form
  clear hT hc ha hb
  go_enter Tryz.func103, Tryz.ntmps103
  go_wp2_with fail
  refine (ivalT_eqW HT.out _ HA.out (by omega)).mono ?_
  rintro e w1 ⟨rfl, hb1⟩
  have B1 : Bl w w1 := bl_call (bl_refl _) hb1
  go_wp2_with fail
  refine (convI_any _ xs _ (HA.out.below B1) (by omega) HB.out).mono ?_
  rintro e w2 ⟨a, k, c, rfl, HO, hb2⟩
  have B2 : Bl w w2 := bl_call B1 hb2
  rw [HC.out] at HO
  rw [HC.out]
  obtain ⟨a9, c9, e9, _⟩ := (show OwnF w2 w1.heap.size (.slice a k c) fs from HO).form
  obtain ⟨rfl, rfl, rfl⟩ : a = a9 ∧ k = fs.length ∧ c = c9 := by simpa using e9
  have HO := Lib.hid (show OwnF w2 w1.heap.size (.slice a fs.length c) fs from HO)
  clear e9
  go_wp2
  go_ret2
  exact ⟨a, c, rfl, HO.out.mono B1.size, B2⟩
set_option maxRecDepth 100000 in
set_option maxHeartbeats 3200000 in
theorem ivalue_any {va : Value} {xs : List Int} {fs : List (Int × Int)} {x y : Int} (w : World) (ha : Sl w va xs) (hT : termsP xs = true) (hc : convL xs = some fs) (hx : fs[xs.length - 1]? = some (x, y)) (hfl : fs.length = xs.length) :
    Calls Tryz.prog 42 #[va] w fun e w' => e = .returned (.tuple #[.agg #[.int .i64 x, .int .i64 y], .int .i64 0]) ∧ Bl w w' := by
  have hll := (termsP_iff.1 hT).1
  rw [← hfl] at hx hll
  have HT := Lib.hid hT
  have HC := Lib.hid hc
  have HA := Lib.hid ha
  have HX := Lib.hid hx
  obtain ⟨av, cv, hav, hcv⟩ := ha.form
  subst hav
  clear hT hc ha hx hfl
  go_enter Tryz.func42, Tryz.ntmps42
  go_wp2_with fail
  have B0 : Bl w (w.alloc (.cells #[.int .i64 0, .int .i64 0] 45)) := bl_alloc (bl_refl _) _
  have xR : Bx (w.alloc (.cells #[.int .i64 0, .int .i64 0] 45)) w.heap.size #[.int .i64 0, .int .i64 0] := Bx.new (b := w.heap.size) w _ _ rfl
  generalize w.alloc (.cells #[.int .i64 0, .int .i64 0] 45) = w0 at *
  refine (iconvOf_okW _ (HA.out.below B0) HT.out HC.out).mono ?_
  rintro e w1 ⟨a, c, rfl, HO, hb1⟩
  have B1 : Bl w w1 := bl_call B0 hb1
  have xR := xR.below hb1
  obtain ⟨cR, fR, zR⟩ := xR.out
  obtain ⟨b, o, rfl, n1, d1, hx1, c1, c2⟩ := HO.slF.cellAt (bl_refl _) (k := fs.length - 1) (by omega)
  obtain ⟨rfl, rfl⟩ : n1 = x ∧ d1 = y := by have := hx1.symm.trans HX.out; simpa using this
  clear hx1
  have hli : ((fs.length : Int) - 1) = ((fs.length - 1 : Nat) : Int) := by omega
  go_wp2
  refine bodyPost_ret (v := .tuple #[.agg #[.int .i64 n1, .int .i64 d1], .int .i64 0]) (by simp only [results, Tryz.results42]; go_simp) rfl ?_
  exact ⟨rfl, bl_set (bl_set B1 (by simp) _) (by simp) _⟩

end Go.Proofs.YtndblondleclpaaGreatDoor

