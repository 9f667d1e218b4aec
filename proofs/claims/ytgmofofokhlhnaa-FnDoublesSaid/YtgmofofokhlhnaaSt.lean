/- States: the small functions of the program and of the reference. Each theorem names its conditions. -/
import Derived.Test.YtgmofofokhlhnaaStM
import Derived.Test.YtgmofofokhlhnaaUpd
import Derived.Test.YtgmofofokhlhnaaApp
namespace Go.Proofs.Ytgmofofokhlhnaa
open Go.RowKit
set_option linter.unusedVariables false
set_option linter.unusedSimpArgs false

theorem inB_eqS {n lo hi : Int} {b : Bool} (h : inB n lo hi = b) (w : World) : Calls Try.prog 95 #[.int .i64 n, .int .i64 lo, .int .i64 hi] w fun e w' => e = .returned (.bool b) ∧ w = w' := h ▸ within_any n lo hi w
theorem num_any (n : Int) (w : World) : Calls Try.prog 176 #[.int .i64 n] w fun e w' => e = .returned (.bool (bdN n)) ∧ w = w' := by
  go_enter Try.func176, Try.ntmps176
  go_wp2_with fail
  refine (in_any _ _ _ _).mono ?_
  rintro e w' ⟨rfl, rfl⟩
  go_wp2
  go_ret
  exact ⟨rfl, rfl⟩
theorem num_eq {n : Int} {b : Bool} (h : bdN n = b) (w : World) : Calls Try.prog 176 #[.int .i64 n] w fun e w' => e = .returned (.bool b) ∧ w = w' := h ▸ num_any n w
theorem ret_obi {a b : Int} {c d : Bool} (h : a = b) (h' : c = d) : Ending.returned (.tuple #[.int .i64 a, .bool c]) = .returned (.tuple #[.int .i64 b, .bool d]) := by rw [h, h']

/-- The floor of a quotient by a negative number. -/
theorem neg_div (a b : Int) (hb : b < 0) : (a.tmod b = 0 → a.tdiv b = -a / -b) ∧ (a < 0 → a.tdiv b = -a / -b) ∧ (a.tmod b ≠ 0 → 0 ≤ a → a.tdiv b - 1 = -a / -b) := by
  have e1 : a.tdiv b = (-a).tdiv (-b) := (Int.neg_tdiv_neg a b).symm
  have e2 : a.tmod b = a.tmod (-b) := (Int.tmod_neg a b).symm
  have e3 : (-a).tmod (-b) = -(a.tmod (-b)) := Int.neg_tmod a (-b)
  refine ⟨fun h => ?_, fun h => ?_, fun h h0 => ?_⟩
  · rw [e1]
    rcases Int.lt_or_le (-a) 0 with c | c
    · exact (neg_quo (-a) (-b) c (by omega)).1 (by omega)
    · exact Int.tdiv_eq_ediv_of_nonneg c
  · rw [e1]; exact Int.tdiv_eq_ediv_of_nonneg (by omega)
  · rw [e1]
    rcases Int.lt_or_le (-a) 0 with c | c
    · exact (neg_quo (-a) (-b) c (by omega)).2.1 (by omega)
    · exfalso
      have : a = 0 := by omega
      subst this
      simp at h
theorem fdv_neg {a b : Int} (h : b < 0) : -a / -b = fdv a b := by unfold fdv; rw [if_pos h]
theorem fdv_pos {a b : Int} (h : ¬ b < 0) : a / b = fdv a b := by unfold fdv; rw [if_neg h]
theorem opS_good {c d : Int} (c0 : ¬ c = 0) (c1 : ¬ c + d = 0) (h : c < 0 ↔ c + d < 0) : opS c d = false := by
  unfold opS
  have e : decide (c < 0) = decide (c + d < 0) := decide_eq_decide.2 h
  simp [e, c0, c1]
theorem opS_bad {c d : Int} (h : ¬ (c < 0 ↔ c + d < 0)) : opS c d = true := by
  unfold opS
  have e : (decide (c < 0) != decide (c + d < 0)) = true := by
    rw [bne_iff_ne]; intro e; exact h (decide_eq_decide.1 e)
  simp [e]

set_option maxHeartbeats 800000 in
theorem fdivN_any (a b : Int) (w : World) (ha : -4000000000 ≤ a ∧ a ≤ 4000000000) (hb : b < 0) (hb2 : -4000000000 ≤ b) :
    Calls Try.prog 172 #[.int .i64 a, .int .i64 b] w fun e w' => e = .returned (.int .i64 (fdv a b)) ∧ w = w' := by
  have hz : (b == 0) = false := by rw [beq_eq_false_iff_ne]; omega
  have hbn : decide (b < 0) = true := decide_eq_true hb
  obtain ⟨q1, q2, q3⟩ := neg_div a b hb
  rw [fdv_neg hb] at q1 q2 q3
  have q4 : -4000000000 ≤ a.tdiv b ∧ a.tdiv b ≤ 4000000000 := by
    have h1 : a.tdiv b = -(a.tdiv (-b)) := by rw [Int.tdiv_neg]; omega
    rcases Int.lt_or_le a 0 with c | c
    · have h2 : a.tdiv (-b) = -((-a).tdiv (-b)) := by rw [Int.neg_tdiv]; omega
      have h3 := Int.tdiv_nonneg (a := -a) (b := -b) (by omega) (by omega)
      have h4 : (-a).tdiv (-b) ≤ -a := by
        rw [Int.tdiv_eq_ediv_of_nonneg (by omega)]
        exact Int.ediv_le_self _ (by omega)
      omega
    · have h3 := Int.tdiv_nonneg (a := a) (b := -b) (by omega) (by omega)
      have h4 : a.tdiv (-b) ≤ a := by
        rw [Int.tdiv_eq_ediv_of_nonneg (by omega)]
        exact Int.ediv_le_self _ (by omega)
      omega
  by_cases h0 : a.tmod b = 0
  · have Q := Lib.hid (q1 h0)
    have c0 : (a.tmod b != 0) = false := by simp [h0]
    clear q1 q2 q3 h0
    go_enter Try.func172, Try.ntmps172
    go_wp2
    go_ret
    exact ⟨ret_int Q.out, rfl⟩
  · have c0 : (a.tmod b != 0) = true := by simp [h0]
    by_cases c : a < 0
    · have Q := Lib.hid (q2 c)
      have cc : decide (a < 0) = true := decide_eq_true c
      clear q1 q2 q3 h0
      go_enter Try.func172, Try.ntmps172
      go_wp2
      go_ret
      exact ⟨ret_int Q.out, rfl⟩
    · have Q := Lib.hid (q3 h0 (by omega))
      have cc : decide (a < 0) = false := decide_eq_false c
      have c0' : (a % b != 0) = true := by rw [← Int.tmod_eq_emod_of_nonneg (by omega)]; exact c0
      clear q1 q2 q3 h0
      go_enter Try.func172, Try.ntmps172
      go_wp2
      go_ret
      exact ⟨ret_int Q.out, rfl⟩
theorem fdv_any (a b : Int) (w : World) (ha : -4000000000 ≤ a ∧ a ≤ 4000000000) (hb : b ≠ 0) (hb2 : -4000000000 ≤ b ∧ b ≤ 4000000000) :
    Calls Try.prog 172 #[.int .i64 a, .int .i64 b] w fun e w' => e = .returned (.int .i64 (fdv a b)) ∧ w = w' := by
  by_cases h : b < 0
  · exact fdivN_any a b w ha h hb2.1
  · rw [← fdv_pos h]; exact fdiv_any a b w (by omega) (by omega) (by omega) (by omega)
/-- What is told of a known term: it, and yes; or something, and no. -/
def KnP (r : Option Int) (v : Value) : Prop := match r with | some q => v = .tuple #[.int .i64 q, .bool true] | none => ∃ q : Int, v = .tuple #[.int .i64 q, .bool false]
theorem knp_no {c d a b : Int} (h : opS c d = true) : KnP (knV a b c d) (.tuple #[.int .i64 0, .bool false]) := by
  unfold knV; rw [if_pos h]; exact ⟨0, rfl⟩
theorem knp_at {c d a b : Int} {v : Bool} (h : opS c d = false) (hv : v = (fdv (a + b) (c + d) == fdv a c)) : KnP (knV a b c d) (.tuple #[.int .i64 (fdv a c), .bool v]) := by
  subst hv
  unfold knV
  rw [if_neg (by rw [h]; simp)]
  by_cases e : fdv (a + b) (c + d) = fdv a c
  · rw [if_pos e, e]; simp [KnP]
  · rw [if_neg e]
    have : (fdv (a + b) (c + d) == fdv a c) = false := by rw [beq_eq_false_iff_ne]; exact e
    rw [this]
    exact ⟨_, rfl⟩
theorem knp_at' {c d a b : Int} {v : Bool} (h : opS c d = false) (hv : v = (fdv a c == fdv (a + b) (c + d))) : KnP (knV a b c d) (.tuple #[.int .i64 (fdv a c), .bool v]) := by
  refine knp_at h (hv.trans ?_)
  by_cases e : fdv (a + b) (c + d) = fdv a c
  · rw [e]
  · have h1 : (fdv (a + b) (c + d) == fdv a c) = false := by rw [beq_eq_false_iff_ne]; exact e
    have h2 : (fdv a c == fdv (a + b) (c + d)) = false := by rw [beq_eq_false_iff_ne]; exact fun x => e x.symm
    rw [h1, h2]
def KnE (a b c d : Int) (w : World) (e : Ending) (w' : World) : Prop := ∃ v, e = .returned v ∧ KnP (knV a b c d) v ∧ Bl w w'

set_option maxRecDepth 100000 in
set_option maxHeartbeats 1600000 in
theorem iknown_any (a b c d : Int) (w : World) (ha : -1000000000 ≤ a ∧ a ≤ 1000000000) (hb : -1000000000 ≤ b ∧ b ≤ 1000000000) (hc : -1000000000 ≤ c ∧ c ≤ 1000000000) (hd : -1000000000 ≤ d ∧ d ≤ 1000000000) :
    Calls Try.prog 178 #[.int .i64 a, .int .i64 b, .int .i64 c, .int .i64 d] w (KnE a b c d w) := by
  by_cases c0 : c = 0
  ·
    have HO := Lib.hid (show opS c d = true by simp [opS, c0])
    have b0 : (c == 0) = true := by simp [c0]
    clear c0
    go_enter Try.func178, Try.ntmps178
    go_wp2
    go_ret2
    exact ⟨_, rfl, knp_no HO.out, (bl_refl _)⟩
  ·
    have b0 : (c == 0) = false := by simp [c0]
    by_cases c1 : c + d = 0
    ·
      have HO := Lib.hid (show opS c d = true by simp [opS, c1])
      have b1 : (c + d == 0) = true := by simp [c1]
      clear c1 c0
      go_enter Try.func178, Try.ntmps178
      go_wp2
      go_ret2
      exact ⟨_, rfl, knp_no HO.out, (bl_refl _)⟩
    ·
      have b1 : (c + d == 0) = false := by simp [c1]
      by_cases c2 : c < 0 ↔ c + d < 0
      ·
        have HO := Lib.hid (show opS c d = false from opS_good c0 c1 c2)
        have HZ := Lib.hid c0
        have HZ1 := Lib.hid c1
        by_cases c3 : c < 0
        ·
          have c5 : c + d < 0 := c2.1 c3
          clear c2 c0 c1
          have f1 : decide (c < 0) = true := by simp; omega
          have f2 : decide (c + d < 0) = true := by simp; omega
          go_enter Try.func178, Try.ntmps178
          go_wp2_with fail
          refine (fdv_any _ _ _ (by omega) HZ.out (by omega)).mono ?_
          rintro e w9 ⟨rfl, rfl⟩
          go_wp2_with fail
          refine (fdv_any _ _ _ (by omega) HZ1.out (by omega)).mono ?_
          rintro e w9 ⟨rfl, rfl⟩
          go_wp2
          go_ret2
          exact ⟨_, rfl, knp_at HO.out rfl, (bl_refl _)⟩
        ·
          have c5 : ¬ c + d < 0 := fun h => c3 (c2.2 h)
          have c6 : 0 < c := by omega
          have c7 : 0 < c + d := by omega
          clear c2 c0 c1
          have f1 : decide (c < 0) = false := by simp; omega
          have f2 : decide (c + d < 0) = false := by simp; omega
          go_enter Try.func178, Try.ntmps178
          go_wp2_with fail
          refine (fdv_any _ _ _ (by omega) HZ.out (by omega)).mono ?_
          rintro e w9 ⟨rfl, rfl⟩
          go_wp2_with fail
          refine (fdv_any _ _ _ (by omega) HZ1.out (by omega)).mono ?_
          rintro e w9 ⟨rfl, rfl⟩
          go_wp2
          go_ret2
          exact ⟨_, rfl, knp_at HO.out rfl, (bl_refl _)⟩
      ·
        have HO := Lib.hid (show opS c d = true from opS_bad c2)
        by_cases c3 : c < 0
        ·
          have c5 : ¬ c + d < 0 := fun h => c2 ⟨fun _ => h, fun _ => c3⟩
          have c7 : 0 < c + d := by omega
          have f1 : decide (c < 0) = true := by simp; omega
          have f2 : decide (c + d < 0) = false := by simp; omega
          clear c2 c0 c1
          go_enter Try.func178, Try.ntmps178
          go_wp2
          go_ret2
          exact ⟨_, rfl, knp_no HO.out, (bl_refl _)⟩
        ·
          have c5 : c + d < 0 := Classical.byContradiction fun h => c2 ⟨fun x => absurd x c3, fun x => absurd x h⟩
          have c7 : 0 < c := by omega
          have f1 : decide (c < 0) = false := by simp; omega
          have f2 : decide (c + d < 0) = true := by simp; omega
          clear c2 c0 c1
          go_enter Try.func178, Try.ntmps178
          go_wp2
          go_ret2
          exact ⟨_, rfl, knp_no HO.out, (bl_refl _)⟩

end Go.Proofs.Ytgmofofokhlhnaa
