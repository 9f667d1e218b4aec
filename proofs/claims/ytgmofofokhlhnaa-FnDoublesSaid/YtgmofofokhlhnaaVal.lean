/- Whether a list is one of terms: the program's test and the reference's. Each theorem names its conditions. -/
import Derived.Test.YtgmofofokhlhnaaCont
namespace Go.Proofs.Ytgmofofokhlhnaa
open Go.RowKit
set_option linter.unusedVariables false
set_option linter.unusedSimpArgs false

/-- Are the numbers terms? -/
def termsP (xs : List Int) : Bool :=
  decide (1 ≤ xs.length ∧ xs.length ≤ 60) && inB (xs.getD 0 0) (-1000000000) 1000000000 && !(xs.tail.any fun x => (!inB x 1 1000000000))
theorem Sl.from1 {w : World} {n c : Nat} {b o : Nat} {xs : List Int} (h : Sl w (.slice (some ⟨b, o, none⟩) n c) xs) (hn : 1 ≤ xs.length) : Sl w (.slice (some ⟨b, o + 1, none⟩) (n - 1) (c - 1)) xs.tail := by
  obtain ⟨a', cap, e, h1, h2, h3, h4, h5⟩ := h
  simp only [Value.slice.injEq] at e
  obtain ⟨rfl, rfl, rfl⟩ := e
  refine ⟨some ⟨b, o + 1, none⟩, c - 1, by simp, by simp; omega, by unfold maxLen at *; omega, fun x hx => h3 x (List.mem_of_mem_tail hx), by simp, ?_⟩
  rcases h5 with h5 | ⟨b', off, e, hc⟩
  · subst h5; simp at hn
  · simp only [Option.some.injEq, Addr.mk.injEq] at e
    obtain ⟨rfl, rfl, _⟩ := e
    refine .inr ⟨_, _, rfl, fun i x hx => ?_⟩
    rw [List.getElem?_tail] at hx
    have := hc (i + 1) x hx
    rw [show o + 1 + i = o + (i + 1) by omega]
    exact this
set_option maxHeartbeats 400000 in
theorem sizeI_any (a : Option Addr) (n c : Nat) (w : World) (hn : n ≤ 9223372036854775807) : Calls Try.prog 98 #[.slice a n c] w fun e w' => e = .returned (.int .i64 n) ∧ w = w' := lsize_any a n c w hn

set_option maxRecDepth 100000 in
set_option maxHeartbeats 1600000 in
theorem ivalT_any (va : Value) (xs : List Int) (w : World) (ha : Sl w va xs) (hl : xs.length ≤ 1048576) :
    Calls Try.prog 106 #[va] w fun e w' => e = .returned (.bool (termsP xs)) ∧ Bl w w' := by
  obtain ⟨av, cv, rfl, hcv⟩ := ha.form'
  cases e1 : inB (xs.length : Int) 1 60 with
  | false =>
    have HR := Lib.hid (show false = termsP xs by
      have : ¬ (1 ≤ xs.length ∧ xs.length ≤ 60) := fun h => by rw [inB_iff.2 (by omega)] at e1; cases e1
      simp [termsP, this])
    have E1 := Lib.hid e1
    clear e1
    go_enter Try.func106, Try.ntmps106
    go_wp2_with (go_at_call 98; refine (lsize_any _ _ _ _ (by omega)).mono ?_; rintro e w9 ⟨rfl, rfl⟩)
    refine (inB_eq E1.out _).mono ?_
    rintro e w9 ⟨rfl, rfl⟩
    go_wp2
    go_ret
    exact ⟨ret_bool HR.out, bl_refl _⟩
  | true =>
    have hb := inB_iff.1 e1
    have h1 : 1 ≤ xs.length ∧ xs.length ≤ 60 := by omega
    obtain ⟨b, o, rfl, x, hx, cx, rx⟩ := ha.cellAt' (bl_refl w) (k := 0) (by omega)
    have hx0 : xs.getD 0 0 = x := by simp [hx]
    rw [Nat.add_zero] at cx
    have E1 := Lib.hid e1
    clear e1
    cases e2 : inB x (-1000000000) 1000000000 with
    | false =>
      have HR := Lib.hid (show false = termsP xs by simp only [termsP, hx0, e2]; simp)
      have E2 := Lib.hid e2
      clear e2 hx hx0
      go_enter Try.func106, Try.ntmps106
      go_wp2_with (go_at_call 98; refine (lsize_any _ _ _ _ (by omega)).mono ?_; rintro e w9 ⟨rfl, rfl⟩)
      refine (inB_eq E1.out _).mono ?_
      rintro e w9 ⟨rfl, rfl⟩
      go_wp2_with fail
      refine (inB_eq E2.out _).mono ?_
      rintro e w9 ⟨rfl, rfl⟩
      go_wp2
      go_ret
      exact ⟨ret_bool HR.out, bl_refl _⟩
    | true =>
      have HR := Lib.hid (show (!(xs.tail.any fun x => (!inB x 1 1000000000))) = termsP xs by simp only [termsP, hx0, e2]; simp [h1])
      have E2 := Lib.hid e2
      clear e2 hx hx0
      have hi1 : (1 : Int) ≤ (xs.length : Int) := by omega
      have hi2 : (xs.length : Int) ≤ (cv : Int) := by omega
      by_cases hc1 : cv = 1
      · subst hc1
        have hl1 : xs.length = 1 := by omega
        obtain ⟨y, rfl⟩ := List.length_eq_one_iff.1 hl1
        have hd : ∀ W : World, Sl W (.slice (some ⟨b, o, none⟩) 0 0) [] := fun W => ⟨_, 0, rfl, Nat.le_refl _, by simp [maxLen], by simp, by simp, .inl rfl⟩
        have HD := Lib.hid hd
        have ha' := Lib.hid ha
        clear hd ha hl1
        go_enter Try.func106, Try.ntmps106
        go_wp2_with (go_at_call 98; refine (lsize_any _ _ _ _ (by omega)).mono ?_; rintro e w9 ⟨rfl, rfl⟩)
        refine (inB_eq E1.out _).mono ?_
        rintro e w9 ⟨rfl, rfl⟩
        go_wp2_with fail
        refine (inB_eq E2.out _).mono ?_
        rintro e w9 ⟨rfl, rfl⟩
        go_wp2_with fail
        refine (contT_any _ [] _ (HD.out _) (by simp)).mono ?_
        rintro e w1 ⟨rfl, hb1⟩
        go_wp2
        go_ret
        exact ⟨ret_bool (by have := HR.out; simpa using this), hb1⟩
      · have hc2 : (cv == 1) = false := by simp [hc1]
        have hc3 : 1 < cv := by omega
        have hd := Lib.hid (ha.from1 h1.1)
        clear hc1
        go_enter Try.func106, Try.ntmps106
        go_wp2_with (go_at_call 98; refine (lsize_any _ _ _ _ (by omega)).mono ?_; rintro e w9 ⟨rfl, rfl⟩)
        refine (inB_eq E1.out _).mono ?_
        rintro e w9 ⟨rfl, rfl⟩
        go_wp2_with fail
        refine (inB_eq E2.out _).mono ?_
        rintro e w9 ⟨rfl, rfl⟩
        go_wp2_with fail
        refine (contT_any _ xs.tail _ hd.out (by simp; omega)).mono ?_
        rintro e w1 ⟨rfl, hb1⟩
        go_wp2
        go_ret
        exact ⟨ret_bool HR.out, hb1⟩
theorem sinB_eq {n lo hi : Int} {b : Bool} (h : inB n lo hi = b) (w : World) : Calls Try.prog 93 #[.int .i64 n, .int .i64 lo, .int .i64 hi] w fun e w' => e = .returned (.bool b) ∧ w = w' := h ▸ in_any n lo hi w

/-- The least term at a place. -/
def lowT (i : Nat) : Int := if i = 0 then -1000000000 else 1
theorem termsP_iff {xs : List Int} : termsP xs = true ↔ (1 ≤ xs.length ∧ xs.length ≤ 60) ∧ ∀ (i : Nat) (x : Int), xs[i]? = some x → inB x (lowT i) 1000000000 = true := by
  unfold termsP
  simp only [Bool.and_eq_true, decide_eq_true_eq, Bool.not_eq_true', List.any_eq_false]
  constructor
  · rintro ⟨⟨h1, h2⟩, h3⟩
    refine ⟨h1, fun i x hx => ?_⟩
    cases i with
    | zero => simp [hx] at h2; exact h2
    | succ i =>
      have := h3 x (List.mem_of_getElem? (i := i) (by rw [List.getElem?_tail]; exact hx))
      simpa [lowT] using this
  · rintro ⟨h1, h2⟩
    refine ⟨⟨h1, ?_⟩, fun x hx => ?_⟩
    · have hx : xs[0]? = some xs[0] := List.getElem?_eq_getElem (by omega)
      have := h2 0 _ hx
      simp [hx]
      exact this
    · obtain ⟨i, hi⟩ := List.getElem?_of_mem hx
      rw [List.getElem?_tail] at hi
      have := h2 (i + 1) x hi
      simpa [lowT] using this
theorem termsP_no {xs : List Int} {i : Nat} {x : Int} (hx : xs[i]? = some x) (h : inB x (lowT i) 1000000000 = false) : false = termsP xs := by
  cases e : termsP xs with
  | false => rfl
  | true => have := (termsP_iff.1 e).2 i x hx; rw [h] at this; cases this
set_option maxRecDepth 100000 in
set_option maxHeartbeats 1600000 in
theorem svalT_any (va : Value) (xs : List Int) (w : World) (ha : Sl w va xs) (hl : xs.length ≤ 1048576) :
    Calls Try.prog 116 #[va] w fun e w' => e = .returned (.bool (termsP xs)) ∧ Bl w w' := by
  obtain ⟨av, cv, rfl, hcv⟩ := ha.form'
  have HA := Lib.hid ha
  clear ha
  go_enter Try.func116, Try.ntmps116
  go_wp2
  go_loopw [3, 4] (fun s3 s4 wr => ∃ k : Nat, s3 = .int .i64 k ∧ k ≤ xs.length ∧ Hid (∀ (i : Nat) (x : Int), i < k → xs[i]? = some x → inB x (lowT i) 1000000000 = true) ∧ Bl w wr) (fun s3 _ _ => xs.length - (intOf s3).toNat)
  case atStart => exact ⟨0, rfl, Nat.zero_le _, Lib.hid (fun i x hi => absurd hi (Nat.not_lt_zero _)), bl_refl _⟩
  case round =>
    rcases hrel with ⟨k, rfl, hkl, hG, Br⟩
    rcases Nat.lt_or_ge k xs.length with hk | hk
    · obtain ⟨bb, oo, rfl, x, hx, cx, rx⟩ := HA.out.cellAt' Br hk
      have HX := Lib.hid hx
      clear hx
      have hlow : lowT k = if k = 0 then -1000000000 else 1 := rfl
      cases hp : inB x (lowT k) 1000000000 with
      | false =>
        have HR := Lib.hid (termsP_no HX.out hp)
        rcases Nat.eq_zero_or_pos k with h0 | h0
        all_goals
          first | (rw [hlow, if_pos h0] at hp) | (rw [hlow, if_neg (by omega)] at hp)
          have HP := Lib.hid hp
          clear hp hlow
          first | (subst h0; rw [Nat.add_zero] at cx) | (have hb : ((k : Int) == 0) = false := beq_eq_false_iff_ne.2 (by omega))
          go_wp2_with fail
          refine (sinB_eq HP.out _).mono ?_
          rintro e w9 ⟨rfl, rfl⟩
          go_wp2
          go_ret
          exact ⟨ret_bool HR.out, Br⟩
      | true =>
        have HN := Lib.hid (show ∀ (i : Nat) (x : Int), i < k + 1 → xs[i]? = some x → inB x (lowT i) 1000000000 = true from fun i y hi hy => by
          rcases Nat.lt_or_ge i k with q | q
          · exact hG.out i y q hy
          · obtain rfl : i = k := by omega
            rw [HX.out] at hy
            exact Option.some.inj hy ▸ hp)
        rcases Nat.eq_zero_or_pos k with h0 | h0
        all_goals
          first | (rw [hlow, if_pos h0] at hp) | (rw [hlow, if_neg (by omega)] at hp)
          have HP := Lib.hid hp
          clear hp hlow
          first | (subst h0; rw [Nat.add_zero] at cx) | (have hb : ((k : Int) == 0) = false := beq_eq_false_iff_ne.2 (by omega))
          go_wp2_with fail
          refine (sinB_eq HP.out _).mono ?_
          rintro e w9 ⟨rfl, rfl⟩
          go_wp2
          go_roundw
          case rel => exact ⟨_, by go_num, by omega, HN, Br⟩
          case measure => clear HN; simp [intOf]; omega
    · have HN := Lib.hid (show ∀ (i : Nat) (x : Int), xs[i]? = some x → inB x (lowT i) 1000000000 = true from fun i x hx => hG.out i x (Nat.lt_of_lt_of_le (List.getElem?_eq_some_iff.1 hx).1 hk) hx)
      cases e1 : inB (xs.length : Int) 1 60 with
      | false =>
        have HR := Lib.hid (show false = termsP xs by
          cases e : termsP xs with
          | false => rfl
          | true => have := (termsP_iff.1 e).1; rw [inB_iff.2 (by omega)] at e1; cases e1)
        have E1 := Lib.hid e1
        clear e1
        go_wp2_with fail
        refine (sinB_eq E1.out _).mono ?_
        rintro e w9 ⟨rfl, rfl⟩
        go_wp2
        go_ret
        exact ⟨ret_bool HR.out, Br⟩
      | true =>
        have HR := Lib.hid (show true = termsP xs from (termsP_iff.2 ⟨by have := inB_iff.1 e1; omega, HN.out⟩).symm)
        have E1 := Lib.hid e1
        clear e1
        go_wp2_with fail
        refine (sinB_eq E1.out _).mono ?_
        rintro e w9 ⟨rfl, rfl⟩
        go_wp2
        go_ret
        exact ⟨ret_bool HR.out, Br⟩

end Go.Proofs.Ytgmofofokhlhnaa
