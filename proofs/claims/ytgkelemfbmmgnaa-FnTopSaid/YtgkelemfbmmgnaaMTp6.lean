/- Some of the texts of this claim, joined in one file: Cont, Val. -/
import Derived.Test.YtgkelemfbmmgnaaMTp1
/- slices.ContainsFunc with the two closures of the program. Each theorem names its conditions. -/
namespace Go.Proofs.Ytgkelemfbmmgnaa
open Go.RowKit
set_option linter.unusedVariables false
set_option linter.unusedSimpArgs false

theorem inB_eq {n lo hi : Int} {b : Bool} (h : inB n lo hi = b) (w : World) : Calls Try.prog 67 #[.int .i64 n, .int .i64 lo, .int .i64 hi] w fun e w' => e = .returned (.bool b) ∧ w = w' := h ▸ within_any n lo hi w
theorem any_take {xs : List Int} {pr : Int → Bool} {k : Nat} {x : Int} (h : (xs.take k).any pr = false) (hx : xs[k]? = some x) (hp : pr x = false) : (xs.take (k + 1)).any pr = false := by
  rw [List.take_add_one, hx, List.any_append, h]
  simp [hp]
theorem any_at {xs : List Int} {pr : Int → Bool} {k : Nat} {x : Int} (hx : xs[k]? = some x) (hp : pr x = true) : xs.any pr = true := by
  rw [List.any_eq_true]
  exact ⟨x, List.mem_of_getElem? hx, hp⟩
def IdxPost (b : Bool) (w : World) (e : Ending) (w' : World) : Prop := ∃ i : Int, e = .returned (.int .i64 i) ∧ decide (0 ≤ i) = b ∧ Bl w w'
theorem Sl.cellAt' {w w' : World} {a : Option Addr} {n c : Nat} {xs : List Int} (h : Sl w (.slice a n c) xs) (hb : Bl w w') {k : Nat} (hk : k < xs.length) :
    ∃ b o, a = some ⟨b, o, none⟩ ∧ ∃ x, xs[k]? = some x ∧ w'.cell? ⟨b, o + k, none⟩ = some (.int .i64 x) ∧ R64 x := by
  obtain ⟨a', cap, e, h1, h2, h3, h4, h5⟩ := h
  simp only [Value.slice.injEq] at e
  obtain ⟨rfl, rfl, rfl⟩ := e
  rcases h5 with h5 | ⟨b, off, rfl, hc⟩
  · rw [h5] at hk; simp at hk
  · have hx : xs[k]? = some xs[k] := List.getElem?_eq_getElem hk
    exact ⟨b, off, rfl, _, hx, (hb.cell (p := ⟨b, off + k, none⟩) (cell_lt (hc k _ hx))).trans (hc k _ hx), h3 _ (List.getElem_mem hk)⟩
theorem Sl.form' {w : World} {v : Value} {xs : List Int} (h : Sl w v xs) : ∃ a c, v = .slice a xs.length c ∧ xs.length ≤ c := by
  obtain ⟨a, cap, rfl, h1, _⟩ := h
  exact ⟨a, cap, rfl, h1⟩

set_option maxHeartbeats 400000 in
theorem cloT_eq {x : Int} {b : Bool} (h : (!inB x 1 1000000000) = b) (w : World) : Calls Try.prog 92 #[.int .i64 x] w fun e w' => e = .returned (.bool b) ∧ w = w' := by
  have H := Lib.hid (show inB x 1 1000000000 = !b by rw [← h]; simp)
  clear h
  go_enter Try.func92, Try.ntmps92
  go_wp2_with fail
  refine (inB_eq H.out _).mono ?_
  rintro e w' ⟨rfl, rfl⟩
  go_wp2
  go_ret
  exact ⟨ret_bool (by simp), rfl⟩

set_option maxRecDepth 100000 in
set_option maxHeartbeats 1600000 in
theorem idxT_any (va : Value) (xs : List Int) (w : World) (ha : Sl w va xs) (hl : xs.length ≤ 1048576) :
    Calls Try.prog 114 #[va, .func (.func 92) #[] #[]] w (IdxPost (xs.any fun x => (!inB x 1 1000000000)) w) := by
  obtain ⟨av, cv, rfl, hcv⟩ := ha.form'
  obtain ⟨pr, hpr⟩ : ∃ pr : Int → Bool, pr = fun x => (!inB x 1 1000000000) := ⟨_, rfl⟩
  have HPR := Lib.hid (show ∀ x, pr x = (!inB x 1 1000000000) from fun x => by rw [hpr])
  rw [← hpr]
  clear hpr
  have HA := Lib.hid ha
  clear ha
  go_enter Try.func114, Try.ntmps114
  go_wp2
  go_loopw [8, 5] (fun s8 s5 wr => ∃ k : Nat, s8 = .int .i64 k ∧ k ≤ xs.length ∧ Hid ((xs.take k).any pr = false) ∧ Bl w wr) (fun s8 _ _ => xs.length - (intOf s8).toNat)
  case atStart => exact ⟨0, rfl, Nat.zero_le _, Lib.hid (by simp), bl_refl _⟩
  case round =>
    rcases hrel with ⟨k, rfl, hkl, hG, Br⟩
    rcases Nat.lt_or_ge k xs.length with hk | hk
    · obtain ⟨bb, oo, rfl, x, hx, cx, rx⟩ := HA.out.cellAt' Br hk
      have HX := Lib.hid hx
      clear hx
      cases hp : pr x with
      | true =>
        have HP := Lib.hid hp
        clear hp
        go_wp2_with fail
        refine (cloT_eq (b := true) (by rw [← HPR.out x]; exact HP.out) _ ).mono ?_
        rintro e w9 ⟨rfl, rfl⟩
        go_wp2
        go_ret
        exact ⟨k, rfl, by rw [any_at HX.out HP.out]; simp, Br⟩
      | false =>
        have HP := Lib.hid hp
        clear hp
        have HN := Lib.hid (any_take hG.out HX.out HP.out)
        go_wp2_with fail
        refine (cloT_eq (b := false) (by rw [← HPR.out x]; exact HP.out) _ ).mono ?_
        rintro e w9 ⟨rfl, rfl⟩
        go_wp2
        go_roundw
        case rel => exact ⟨k + 1, by go_num, by omega, HN, Br⟩
        case measure => clear HN; simp only [intOf, Int.toNat_natCast]; omega
    · have HN := Lib.hid (show xs.any pr = false by have := hG.out; rwa [List.take_of_length_le hk] at this)
      go_wp2
      go_ret
      exact ⟨-1, rfl, by rw [HN.out]; simp, Br⟩

set_option maxHeartbeats 800000 in
theorem contT_any (va : Value) (xs : List Int) (w : World) (ha : Sl w va xs) (hl : xs.length ≤ 1048576) :
    Calls Try.prog 91 #[va, .func (.func 92) #[] #[]] w fun e w' => e = .returned (.bool (xs.any fun x => (!inB x 1 1000000000))) ∧ Bl w w' := by
  go_enter Try.func91, Try.ntmps91
  go_wp2_with fail
  refine (idxT_any va xs w ha hl ).mono ?_
  rintro e w1 ⟨i, rfl, hi, hb1⟩
  have HI := Lib.hid hi
  clear hi
  go_wp2
  go_ret
  exact ⟨ret_bool HI.out, hb1⟩

end Go.Proofs.Ytgkelemfbmmgnaa

/- Whether a list is one of terms: the program's test and the reference's. Each theorem names its conditions. -/
namespace Go.Proofs.Ytgkelemfbmmgnaa
open Go.RowKit
set_option linter.unusedVariables false
set_option linter.unusedSimpArgs false

/-- Are the numbers terms? -/
def termsP (xs : List Int) : Bool :=
  decide (1 ≤ xs.length ∧ xs.length ≤ 60) && inB (xs.getD 0 0) (-1000000000) 1000000000 && !(xs.tail.any fun x => (!inB x 1 1000000000))
theorem Sl.from1 {w : World} {n c : Nat} {b o : Nat} {xs : List Int} (h : Sl w (.slice (some ⟨b, o, none⟩) n c) xs) (hn : 1 ≤ xs.length) : Sl w (.slice (some ⟨b, o + 1, none⟩) (n - 1) (c - 1)) xs.tail := by
  obtain ⟨a', cap, e, h1, h2, h3, h4, h5⟩ := h
  simp only [Value.slice.injEq] at e
  obtain ⟨rfl, rfl, rfl⟩ := e
  refine ⟨some ⟨b, o + 1, none⟩, c - 1, by simp, by simp; omega, by unfold maxLen at *; omega, fun x hx => h3 x (List.mem_of_mem_tail hx), by simp, ?_⟩
  rcases h5 with h5 | ⟨b', off, e, hc⟩
  · subst h5; simp at hn
  · simp only [Option.some.injEq, Addr.mk.injEq] at e
    obtain ⟨rfl, rfl, _⟩ := e
    refine .inr ⟨_, _, rfl, fun i x hx => ?_⟩
    rw [List.getElem?_tail] at hx
    have := hc (i + 1) x hx
    rw [show o + 1 + i = o + (i + 1) by omega]
    exact this
set_option maxHeartbeats 400000 in
theorem sizeI_any (a : Option Addr) (n c : Nat) (w : World) (hn : n ≤ 9223372036854775807) : Calls Try.prog 68 #[.slice a n c] w fun e w' => e = .returned (.int .i64 n) ∧ w = w' := lsize_any a n c w hn

set_option maxRecDepth 100000 in
set_option maxHeartbeats 1600000 in
theorem ivalT_any (va : Value) (xs : List Int) (w : World) (ha : Sl w va xs) (hl : xs.length ≤ 1048576) :
    Calls Try.prog 60 #[va] w fun e w' => e = .returned (.bool (termsP xs)) ∧ Bl w w' := by
  obtain ⟨av, cv, rfl, hcv⟩ := ha.form'
  cases e1 : inB (xs.length : Int) 1 60 with
  | false =>
    have HR := Lib.hid (show false = termsP xs by
      have : ¬ (1 ≤ xs.length ∧ xs.length ≤ 60) := fun h => by rw [inB_iff.2 (by omega)] at e1; cases e1
      simp [termsP, this])
    have E1 := Lib.hid e1
    clear e1
    go_enter Try.func60, Try.ntmps60
    go_wp2_with (go_at_call 68; refine (lsize_any _ _ _ _ (by omega)).mono ?_; rintro e w9 ⟨rfl, rfl⟩)
    refine (inB_eq E1.out _).mono ?_
    rintro e w9 ⟨rfl, rfl⟩
    go_wp2
    go_ret
    exact ⟨ret_bool HR.out, bl_refl _⟩
  | true =>
    have hb := inB_iff.1 e1
    have h1 : 1 ≤ xs.length ∧ xs.length ≤ 60 := by omega
    obtain ⟨b, o, rfl, x, hx, cx, rx⟩ := ha.cellAt' (bl_refl w) (k := 0) (by omega)
    have hx0 : xs.getD 0 0 = x := by simp [hx]
    rw [Nat.add_zero] at cx
    have E1 := Lib.hid e1
    clear e1
    cases e2 : inB x (-1000000000) 1000000000 with
    | false =>
      have HR := Lib.hid (show false = termsP xs by simp only [termsP, hx0, e2]; simp)
      have E2 := Lib.hid e2
      clear e2 hx hx0
      go_enter Try.func60, Try.ntmps60
      go_wp2_with (go_at_call 68; refine (lsize_any _ _ _ _ (by omega)).mono ?_; rintro e w9 ⟨rfl, rfl⟩)
      refine (inB_eq E1.out _).mono ?_
      rintro e w9 ⟨rfl, rfl⟩
      go_wp2_with fail
      refine (inB_eq E2.out _).mono ?_
      rintro e w9 ⟨rfl, rfl⟩
      go_wp2
      go_ret
      exact ⟨ret_bool HR.out, bl_refl _⟩
    | true =>
      have HR := Lib.hid (show (!(xs.tail.any fun x => (!inB x 1 1000000000))) = termsP xs by simp only [termsP, hx0, e2]; simp [h1])
      have E2 := Lib.hid e2
      clear e2 hx hx0
      have hi1 : (1 : Int) ≤ (xs.length : Int) := by omega
      have hi2 : (xs.length : Int) ≤ (cv : Int) := by omega
      by_cases hc1 : cv = 1
      · subst hc1
        have hl1 : xs.length = 1 := by omega
        obtain ⟨y, rfl⟩ := List.length_eq_one_iff.1 hl1
        have hd : ∀ W : World, Sl W (.slice (some ⟨b, o, none⟩) 0 0) [] := fun W => ⟨_, 0, rfl, Nat.le_refl _, by simp [maxLen], by simp, by simp, .inl rfl⟩
        have HD := Lib.hid hd
        have ha' := Lib.hid ha
        clear hd ha hl1
        go_enter Try.func60, Try.ntmps60
        go_wp2_with (go_at_call 68; refine (lsize_any _ _ _ _ (by omega)).mono ?_; rintro e w9 ⟨rfl, rfl⟩)
        refine (inB_eq E1.out _).mono ?_
        rintro e w9 ⟨rfl, rfl⟩
        go_wp2_with fail
        refine (inB_eq E2.out _).mono ?_
        rintro e w9 ⟨rfl, rfl⟩
        go_wp2_with fail
        refine (contT_any _ [] _ (HD.out _) (by simp)).mono ?_
        rintro e w1 ⟨rfl, hb1⟩
        go_wp2
        go_ret
        exact ⟨ret_bool (by have := HR.out; simpa using this), hb1⟩
      · have hc2 : (cv == 1) = false := by simp [hc1]
        have hc3 : 1 < cv := by omega
        have hd := Lib.hid (ha.from1 h1.1)
        clear hc1
        go_enter Try.func60, Try.ntmps60
        go_wp2_with (go_at_call 68; refine (lsize_any _ _ _ _ (by omega)).mono ?_; rintro e w9 ⟨rfl, rfl⟩)
        refine (inB_eq E1.out _).mono ?_
        rintro e w9 ⟨rfl, rfl⟩
        go_wp2_with fail
        refine (inB_eq E2.out _).mono ?_
        rintro e w9 ⟨rfl, rfl⟩
        go_wp2_with fail
        refine (contT_any _ xs.tail _ hd.out (by simp; omega)).mono ?_
        rintro e w1 ⟨rfl, hb1⟩
        go_wp2
        go_ret
        exact ⟨ret_bool HR.out, hb1⟩
theorem sinB_eq {n lo hi : Int} {b : Bool} (h : inB n lo hi = b) (w : World) : Calls Try.prog 73 #[.int .i64 n, .int .i64 lo, .int .i64 hi] w fun e w' => e = .returned (.bool b) ∧ w = w' := h ▸ in_any n lo hi w

/-- The least term at a place. -/
def lowT (i : Nat) : Int := if i = 0 then -1000000000 else 1
theorem termsP_iff {xs : List Int} : termsP xs = true ↔ (1 ≤ xs.length ∧ xs.length ≤ 60) ∧ ∀ (i : Nat) (x : Int), xs[i]? = some x → inB x (lowT i) 1000000000 = true := by
  unfold termsP
  simp only [Bool.and_eq_true, decide_eq_true_eq, Bool.not_eq_true', List.any_eq_false]
  constructor
  · rintro ⟨⟨h1, h2⟩, h3⟩
    refine ⟨h1, fun i x hx => ?_⟩
    cases i with
    | zero => simp [hx] at h2; exact h2
    | succ i =>
      have := h3 x (List.mem_of_getElem? (i := i) (by rw [List.getElem?_tail]; exact hx))
      simpa [lowT] using this
  · rintro ⟨h1, h2⟩
    refine ⟨⟨h1, ?_⟩, fun x hx => ?_⟩
    · have hx : xs[0]? = some xs[0] := List.getElem?_eq_getElem (by omega)
      have := h2 0 _ hx
      simp [hx]
      exact this
    · obtain ⟨i, hi⟩ := List.getElem?_of_mem hx
      rw [List.getElem?_tail] at hi
      have := h2 (i + 1) x hi
      simpa [lowT] using this
theorem termsP_no {xs : List Int} {i : Nat} {x : Int} (hx : xs[i]? = some x) (h : inB x (lowT i) 1000000000 = false) : false = termsP xs := by
  cases e : termsP xs with
  | false => rfl
  | true => have := (termsP_iff.1 e).2 i x hx; rw [h] at this; cases this
end Go.Proofs.Ytgkelemfbmmgnaa

