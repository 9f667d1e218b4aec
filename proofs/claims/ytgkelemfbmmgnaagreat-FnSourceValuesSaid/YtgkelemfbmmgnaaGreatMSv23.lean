/- Some of the texts of this claim, joined in one file: StM, St. -/
import Derived.Test.YtgkelemfbmmgnaaGreatMSv1
import Derived.Test.YtgkelemfbmmgnaaGreatMSv3
import Derived.Test.YtgkelemfbmmgnaaGreatMSv7
/- States (a x + b) / (c x + d): plain functions. No condition but what each theorem names. -/
namespace Go.Proofs.YtgkelemfbmmgnaaGreat
set_option linter.unusedVariables false
set_option linter.unusedSimpArgs false

structure St where
  a : Int
  b : Int
  c : Int
  d : Int
def fedF (s : St) (t : Int) : St := ⟨s.a * t + s.b, s.a, s.c * t + s.d, s.c⟩
def emF (s : St) (q : Int) : St := ⟨s.c, s.d, s.a - q * s.c, s.b - q * s.d⟩
def bdN (n : Int) : Bool := inB n (-1000000000) 1000000000
def bdS (s : St) : Bool := bdN s.a && bdN s.b && bdN s.c && bdN s.d
def okS (s : St) : Bool := bdS s && (s.a * s.d != s.b * s.c)
theorem bdN_iff {n : Int} : bdN n = true ↔ -1000000000 ≤ n ∧ n ≤ 1000000000 := inB_iff
theorem bdS_iff {s : St} : bdS s = true ↔ (-1000000000 ≤ s.a ∧ s.a ≤ 1000000000) ∧ (-1000000000 ≤ s.b ∧ s.b ≤ 1000000000) ∧ (-1000000000 ≤ s.c ∧ s.c ≤ 1000000000) ∧ (-1000000000 ≤ s.d ∧ s.d ≤ 1000000000) := by
  simp only [bdS, Bool.and_eq_true, bdN_iff, and_assoc]
/-- The determinant is not nought. -/
def Det (s : St) : Prop := s.a * s.d ≠ s.b * s.c
theorem Det.fed {s : St} (h : Det s) (t : Int) : Det (fedF s t) := by
  unfold Det fedF at *
  simp only
  intro e
  apply h
  have e1 : (s.a * t + s.b) * s.c = s.a * t * s.c + s.b * s.c := Int.add_mul _ _ _
  have e2 : s.a * (s.c * t + s.d) = s.a * (s.c * t) + s.a * s.d := Int.mul_add _ _ _
  have e3 : s.a * t * s.c = s.a * (s.c * t) := by ac_rfl
  omega
theorem Det.em {s : St} (h : Det s) (q : Int) : Det (emF s q) := by
  unfold Det emF at *
  simp only
  intro e
  apply h
  have e1 : s.c * (s.b - q * s.d) = s.c * s.b - s.c * (q * s.d) := Int.mul_sub _ _ _
  have e2 : s.d * (s.a - q * s.c) = s.d * s.a - s.d * (q * s.c) := Int.mul_sub _ _ _
  have e3 : s.c * (q * s.d) = s.d * (q * s.c) := by ac_rfl
  have e4 : s.c * s.b = s.b * s.c := Int.mul_comm _ _
  have e5 : s.d * s.a = s.a * s.d := Int.mul_comm _ _
  omega
theorem okS_iff {s : St} : okS s = true ↔ bdS s = true ∧ Det s := by simp [okS, Det]

/-- The floor of a quotient, whatever the divisor's sign. -/
def fdv (n d : Int) : Int := if d < 0 then -n / -d else n / d
theorem fdv_bd {n d L : Int} (hd : d ≠ 0) (hn : -L ≤ n ∧ n ≤ L) (hL : 0 ≤ L) : -L ≤ fdv n d ∧ fdv n d ≤ L := by
  have key : ∀ x y : Int, 0 < y → -L ≤ x → x ≤ L → -L ≤ x / y ∧ x / y ≤ L := by
    intro x y hy h1 h2
    have a := Int.mul_le_mul_of_nonneg_left (show 1 ≤ y by omega) hL
    refine ⟨(Int.le_ediv_iff_mul_le hy).2 ?_, Int.ediv_le_of_le_mul hy (by omega)⟩
    rw [Int.neg_mul]; omega
  unfold fdv
  split
  · exact key _ _ (by omega) (by omega) (by omega)
  · exact key _ _ (by omega) hn.1 hn.2
/-- Is nothing known, because the denominators vanish or have two signs? -/
def opS (c d : Int) : Bool := decide (c = 0) || decide (c + d = 0) || (decide (c < 0) != decide (c + d < 0))
/-- The term that is known. -/
def knV (a b c d : Int) : Option Int := if opS c d then none else if fdv (a + b) (c + d) = fdv a c then some (fdv a c) else none
def knF (s : St) : Option Int := knV s.a s.b s.c s.d
theorem knF_some {s : St} {q : Int} (h : knF s = some q) : opS s.c s.d = false ∧ fdv (s.a + s.b) (s.c + s.d) = q ∧ fdv s.a s.c = q := by
  unfold knF knV at h
  cases e : opS s.c s.d with
  | true => rw [e] at h; simp at h
  | false =>
    rw [e] at h
    simp only [Bool.false_eq_true, if_false] at h
    split at h
    · rename_i e2
      injection h with h
      exact ⟨rfl, by omega, h⟩
    · cases h
theorem opS_no {c d : Int} (h : opS c d = false) : c ≠ 0 ∧ c + d ≠ 0 ∧ (c < 0 ↔ c + d < 0) := by
  unfold opS at h
  simp only [Bool.or_eq_false_iff, decide_eq_false_iff_not] at h
  obtain ⟨⟨h1, h2⟩, h3⟩ := h
  refine ⟨h1, h2, ?_⟩
  by_cases x : c < 0 <;> by_cases y : c + d < 0 <;> simp [x, y] at h3 ⊢
theorem kn_bd {s : St} {q : Int} (hb : bdS s = true) (h : knF s = some q) : -1000000000 ≤ q ∧ q ≤ 1000000000 := by
  have hb := bdS_iff.1 hb
  obtain ⟨h1, _, h3⟩ := knF_some h
  have := fdv_bd (n := s.a) (d := s.c) (L := 1000000000) (opS_no h1).1 hb.1 (by omega)
  omega

/-- Emit terms as long as one is known, up to some number in all: the state and the terms, or nothing if it becomes too great. -/
def emitM (most : Nat) : Nat → St → List Int → Option (St × List Int)
  | 0, _, _ => none
  | f + 1, s, out =>
    if most ≤ out.length then some (s, out)
    else match knF s with
      | none => some (s, out)
      | some q => if out.length = 60 then none else if bdS (emF s q) then emitM most f (emF s q) (out ++ [q]) else if most ≤ out.length + 1 then some (emF s q, out ++ [q]) else none
def emitF (most : Nat) (s : St) (out : List Int) : Option (St × List Int) := emitM most (61 - out.length) s out
theorem emit_most {most : Nat} {s : St} {out : List Int} (hl : out.length ≤ 60) (h : most ≤ out.length) : emitF most s out = some (s, out) := by
  unfold emitF
  rw [show 61 - out.length = (60 - out.length) + 1 by omega, emitM, if_pos h]
theorem emit_none {most : Nat} {s : St} {out : List Int} (hl : out.length ≤ 60) (h : knF s = none) : emitF most s out = some (s, out) := by
  unfold emitF
  rw [show 61 - out.length = (60 - out.length) + 1 by omega, emitM, h]
  split <;> rfl
theorem emit_full {most : Nat} {s : St} {out : List Int} {q : Int} (hl : out.length = 60) (hm : out.length < most) (h : knF s = some q) : emitF most s out = none := by
  unfold emitF
  rw [show 61 - out.length = (60 - out.length) + 1 by omega, emitM, if_neg (by omega), h]
  simp [hl]
theorem emit_step {most : Nat} {s : St} {out : List Int} {q : Int} (hl : out.length < 60) (hm : out.length < most) (h : knF s = some q) (hb : bdS (emF s q) = true) : emitF most s out = emitF most (emF s q) (out ++ [q]) := by
  unfold emitF
  rw [show 61 - out.length = (60 - out.length) + 1 by omega, emitM, if_neg (by omega), h]
  simp only []
  rw [if_neg (by omega), if_pos hb]
  simp only [List.length_append, List.length_singleton]
  rw [show 61 - (out.length + 1) = 60 - out.length by omega]
theorem emit_big {most : Nat} {s : St} {out : List Int} {q : Int} (hl : out.length < 60) (hm : out.length + 1 < most) (h : knF s = some q) (hb : bdS (emF s q) = false) : emitF most s out = none := by
  unfold emitF
  rw [show 61 - out.length = (60 - out.length) + 1 by omega, emitM, if_neg (by omega), h]
  simp only []
  rw [if_neg (by omega), hb, if_neg (by simp), if_neg (by omega)]
theorem emit_last {most : Nat} {s : St} {out : List Int} {q : Int} (hl : out.length < 60) (hm : out.length + 1 = most) (h : knF s = some q) (hb : bdS (emF s q) = false) : emitF most s out = some (emF s q, out ++ [q]) := by
  unfold emitF
  rw [show 61 - out.length = (60 - out.length) + 1 by omega, emitM, if_neg (by omega), h]
  simp only []
  rw [if_neg (by omega), hb, if_neg (by simp), if_pos (by omega)]
/-- Whatever emission leaves. -/
theorem emit_keeps {most : Nat} {s s' : St} {out out' : List Int} (P : St → Prop) (hp : ∀ s q, P s → P (emF s q)) : out.length ≤ 60 → P s → emitF most s out = some (s', out') → P s' ∧ out'.length ≤ 60 ∧ out.length ≤ out'.length := by
  have key : ∀ f s out, out.length ≤ 60 → P s → emitM most f s out = some (s', out') → P s' ∧ out'.length ≤ 60 ∧ out.length ≤ out'.length := by
    intro f
    induction f with
    | zero => intro s out _ _ h; cases h
    | succ f ih =>
      intro s out hl hs h
      rw [emitM] at h
      split at h
      · injection h with h; injection h with h1 h2; subst h1 h2; exact ⟨hs, hl, Nat.le_refl _⟩
      · split at h
        · injection h with h; injection h with h1 h2; subst h1 h2; exact ⟨hs, hl, Nat.le_refl _⟩
        · rename_i q _
          split at h
          · cases h
          · split at h
            · have := ih (emF s q) (out ++ [q]) (by simp; omega) (hp s q hs) h
              simp at this
              exact ⟨this.1, this.2.1, by omega⟩
            · split at h
              · injection h with h; injection h with h1 h2; subst h1 h2
                exact ⟨hp s q hs, by simp; omega, by simp⟩
              · cases h
  intro hl hs h
  exact key _ s out hl hs h
theorem emit_bd {most : Nat} {s s' : St} {out out' : List Int} (hm : 60 < most) : out.length ≤ 60 → bdS s = true → emitF most s out = some (s', out') → bdS s' = true := by
  have key : ∀ f s out, out.length ≤ 60 → bdS s = true → emitM most f s out = some (s', out') → bdS s' = true := by
    intro f
    induction f with
    | zero => intro s out _ _ h; cases h
    | succ f ih =>
      intro s out hl hs h
      rw [emitM] at h
      split at h
      · injection h with h; injection h with h1 h2; subst h1 h2; exact hs
      · split at h
        · injection h with h; injection h with h1 h2; subst h1 h2; exact hs
        · rename_i q _
          split at h
          · cases h
          · split at h
            · rename_i hb
              exact ih (emF s q) (out ++ [q]) (by simp; omega) hb h
            · split at h
              · omega
              · cases h
  intro hl hs h
  exact key _ s out hl hs h

end Go.Proofs.YtgkelemfbmmgnaaGreat

/- States: the small functions of the program and of the reference. Each theorem names its conditions. -/
namespace Go.Proofs.YtgkelemfbmmgnaaGreat
open Go.RowKit
set_option linter.unusedVariables false
set_option linter.unusedSimpArgs false

theorem inB_eqS {n lo hi : Int} {b : Bool} (h : inB n lo hi = b) (w : World) : Calls Tryz.prog 38 #[.int .i64 n, .int .i64 lo, .int .i64 hi] w fun e w' => e = .returned (.bool b) ∧ w = w' := h ▸ within_any n lo hi w
theorem num_any (n : Int) (w : World) : Calls Tryz.prog 89 #[.int .i64 n] w fun e w' => e = .returned (.bool (bdN n)) ∧ w = w' := by
  go_enter Tryz.func89, Tryz.ntmps89
  go_wp2_with fail
  refine (in_any _ _ _ _).mono ?_
  rintro e w' ⟨rfl, rfl⟩
  go_wp2
  go_ret
  exact ⟨rfl, rfl⟩
theorem num_eq {n : Int} {b : Bool} (h : bdN n = b) (w : World) : Calls Tryz.prog 89 #[.int .i64 n] w fun e w' => e = .returned (.bool b) ∧ w = w' := h ▸ num_any n w
theorem ret_obi {a b : Int} {c d : Bool} (h : a = b) (h' : c = d) : Ending.returned (.tuple #[.int .i64 a, .bool c]) = .returned (.tuple #[.int .i64 b, .bool d]) := by rw [h, h']

/-- The floor of a quotient by a negative number. -/
theorem neg_div (a b : Int) (hb : b < 0) : (a.tmod b = 0 → a.tdiv b = -a / -b) ∧ (a < 0 → a.tdiv b = -a / -b) ∧ (a.tmod b ≠ 0 → 0 ≤ a → a.tdiv b - 1 = -a / -b) := by
  have e1 : a.tdiv b = (-a).tdiv (-b) := (Int.neg_tdiv_neg a b).symm
  have e2 : a.tmod b = a.tmod (-b) := (Int.tmod_neg a b).symm
  have e3 : (-a).tmod (-b) = -(a.tmod (-b)) := Int.neg_tmod a (-b)
  refine ⟨fun h => ?_, fun h => ?_, fun h h0 => ?_⟩
  · rw [e1]
    rcases Int.lt_or_le (-a) 0 with c | c
    · exact (neg_quo (-a) (-b) c (by omega)).1 (by omega)
    · exact Int.tdiv_eq_ediv_of_nonneg c
  · rw [e1]; exact Int.tdiv_eq_ediv_of_nonneg (by omega)
  · rw [e1]
    rcases Int.lt_or_le (-a) 0 with c | c
    · exact (neg_quo (-a) (-b) c (by omega)).2.1 (by omega)
    · exfalso
      have : a = 0 := by omega
      subst this
      simp at h
theorem fdv_neg {a b : Int} (h : b < 0) : -a / -b = fdv a b := by unfold fdv; rw [if_pos h]
theorem fdv_pos {a b : Int} (h : ¬ b < 0) : a / b = fdv a b := by unfold fdv; rw [if_neg h]
theorem opS_good {c d : Int} (c0 : ¬ c = 0) (c1 : ¬ c + d = 0) (h : c < 0 ↔ c + d < 0) : opS c d = false := by
  unfold opS
  have e : decide (c < 0) = decide (c + d < 0) := decide_eq_decide.2 h
  simp [e, c0, c1]
theorem opS_bad {c d : Int} (h : ¬ (c < 0 ↔ c + d < 0)) : opS c d = true := by
  unfold opS
  have e : (decide (c < 0) != decide (c + d < 0)) = true := by
    rw [bne_iff_ne]; intro e; exact h (decide_eq_decide.1 e)
  simp [e]

set_option maxHeartbeats 800000 in
theorem fdivN_any (a b : Int) (w : World) (ha : -4000000000 ≤ a ∧ a ≤ 4000000000) (hb : b < 0) (hb2 : -4000000000 ≤ b) :
    Calls Tryz.prog 68 #[.int .i64 a, .int .i64 b] w fun e w' => e = .returned (.int .i64 (fdv a b)) ∧ w = w' := by
  have hz : (b == 0) = false := by rw [beq_eq_false_iff_ne]; omega
  have hbn : decide (b < 0) = true := decide_eq_true hb
  obtain ⟨q1, q2, q3⟩ := neg_div a b hb
  rw [fdv_neg hb] at q1 q2 q3
  have q4 : -4000000000 ≤ a.tdiv b ∧ a.tdiv b ≤ 4000000000 := by
    have h1 : a.tdiv b = -(a.tdiv (-b)) := by rw [Int.tdiv_neg]; omega
    rcases Int.lt_or_le a 0 with c | c
    · have h2 : a.tdiv (-b) = -((-a).tdiv (-b)) := by rw [Int.neg_tdiv]; omega
      have h3 := Int.tdiv_nonneg (a := -a) (b := -b) (by omega) (by omega)
      have h4 : (-a).tdiv (-b) ≤ -a := by
        rw [Int.tdiv_eq_ediv_of_nonneg (by omega)]
        exact Int.ediv_le_self _ (by omega)
      omega
    · have h3 := Int.tdiv_nonneg (a := a) (b := -b) (by omega) (by omega)
      have h4 : a.tdiv (-b) ≤ a := by
        rw [Int.tdiv_eq_ediv_of_nonneg (by omega)]
        exact Int.ediv_le_self _ (by omega)
      omega
  by_cases h0 : a.tmod b = 0
  · have Q := Lib.hid (q1 h0)
    have c0 : (a.tmod b != 0) = false := by simp [h0]
    clear q1 q2 q3 h0
    go_enter Tryz.func68, Tryz.ntmps68
    go_wp2
    go_ret
    exact ⟨ret_int Q.out, rfl⟩
  · have c0 : (a.tmod b != 0) = true := by simp [h0]
    by_cases c : a < 0
    · have Q := Lib.hid (q2 c)
      have cc : decide (a < 0) = true := decide_eq_true c
      clear q1 q2 q3 h0
      go_enter Tryz.func68, Tryz.ntmps68
      go_wp2
      go_ret
      exact ⟨ret_int Q.out, rfl⟩
    · have Q := Lib.hid (q3 h0 (by omega))
      have cc : decide (a < 0) = false := decide_eq_false c
      have c0' : (a % b != 0) = true := by rw [← Int.tmod_eq_emod_of_nonneg (by omega)]; exact c0
      clear q1 q2 q3 h0
      go_enter Tryz.func68, Tryz.ntmps68
      go_wp2
      go_ret
      exact ⟨ret_int Q.out, rfl⟩
theorem fdv_any (a b : Int) (w : World) (ha : -4000000000 ≤ a ∧ a ≤ 4000000000) (hb : b ≠ 0) (hb2 : -4000000000 ≤ b ∧ b ≤ 4000000000) :
    Calls Tryz.prog 68 #[.int .i64 a, .int .i64 b] w fun e w' => e = .returned (.int .i64 (fdv a b)) ∧ w = w' := by
  by_cases h : b < 0
  · exact fdivN_any a b w ha h hb2.1
  · rw [← fdv_pos h]; exact fdiv_any a b w (by omega) (by omega) (by omega) (by omega)
set_option maxHeartbeats 800000 in
theorem sfdv_any (a b : Int) (w : World) (ha : -4000000000 ≤ a ∧ a ≤ 4000000000) (hb : b ≠ 0) (hb2 : -4000000000 ≤ b ∧ b ≤ 4000000000) :
    Calls Tryz.prog 90 #[.int .i64 a, .int .i64 b] w fun e w' => e = .returned (.int .i64 (fdv a b)) ∧ w = w' := by
  by_cases h : b < 0
  · have HF := Lib.hid (fdv_neg (a := a) h)
    go_enter Tryz.func90, Tryz.ntmps90
    go_wp2_with fail
    refine (floor_any _ _ _ (by omega) (by omega) (by omega) (by omega)).mono ?_
    rintro e w' ⟨rfl, rfl⟩
    rw [HF.out]
    go_wp2
    go_ret
    exact ⟨rfl, rfl⟩
  · have HF := Lib.hid (fdv_pos (a := a) h)
    go_enter Tryz.func90, Tryz.ntmps90
    go_wp2_with fail
    refine (floor_any _ _ _ (by omega) (by omega) (by omega) (by omega)).mono ?_
    rintro e w' ⟨rfl, rfl⟩
    rw [HF.out]
    go_wp2
    go_ret
    exact ⟨rfl, rfl⟩

/-- What is told of a known term: it, and yes; or something, and no. -/
def KnP (r : Option Int) (v : Value) : Prop := match r with | some q => v = .tuple #[.int .i64 q, .bool true] | none => ∃ q : Int, v = .tuple #[.int .i64 q, .bool false]
theorem knp_no {c d a b : Int} (h : opS c d = true) : KnP (knV a b c d) (.tuple #[.int .i64 0, .bool false]) := by
  unfold knV; rw [if_pos h]; exact ⟨0, rfl⟩
theorem knp_at {c d a b : Int} {v : Bool} (h : opS c d = false) (hv : v = (fdv (a + b) (c + d) == fdv a c)) : KnP (knV a b c d) (.tuple #[.int .i64 (fdv a c), .bool v]) := by
  subst hv
  unfold knV
  rw [if_neg (by rw [h]; simp)]
  by_cases e : fdv (a + b) (c + d) = fdv a c
  · rw [if_pos e, e]; simp [KnP]
  · rw [if_neg e]
    have : (fdv (a + b) (c + d) == fdv a c) = false := by rw [beq_eq_false_iff_ne]; exact e
    rw [this]
    exact ⟨_, rfl⟩
theorem knp_at' {c d a b : Int} {v : Bool} (h : opS c d = false) (hv : v = (fdv a c == fdv (a + b) (c + d))) : KnP (knV a b c d) (.tuple #[.int .i64 (fdv a c), .bool v]) := by
  refine knp_at h (hv.trans ?_)
  by_cases e : fdv (a + b) (c + d) = fdv a c
  · rw [e]
  · have h1 : (fdv (a + b) (c + d) == fdv a c) = false := by rw [beq_eq_false_iff_ne]; exact e
    have h2 : (fdv a c == fdv (a + b) (c + d)) = false := by rw [beq_eq_false_iff_ne]; exact fun x => e x.symm
    rw [h1, h2]
def KnE (a b c d : Int) (w : World) (e : Ending) (w' : World) : Prop := ∃ v, e = .returned v ∧ KnP (knV a b c d) v ∧ Bl w w'

set_option maxRecDepth 100000 in
set_option maxHeartbeats 1600000 in
theorem iknown_any (a b c d : Int) (w : World) (ha : -1000000000 ≤ a ∧ a ≤ 1000000000) (hb : -1000000000 ≤ b ∧ b ≤ 1000000000) (hc : -1000000000 ≤ c ∧ c ≤ 1000000000) (hd : -1000000000 ≤ d ∧ d ≤ 1000000000) :
    Calls Tryz.prog 104 #[.int .i64 a, .int .i64 b, .int .i64 c, .int .i64 d] w (KnE a b c d w) := by
  by_cases c0 : c = 0
  ·
    have HO := Lib.hid (show opS c d = true by simp [opS, c0])
    have b0 : (c == 0) = true := by simp [c0]
    clear c0
    go_enter Tryz.func104, Tryz.ntmps104
    go_wp2
    go_ret2
    exact ⟨_, rfl, knp_no HO.out, (bl_refl _)⟩
  ·
    have b0 : (c == 0) = false := by simp [c0]
    by_cases c1 : c + d = 0
    ·
      have HO := Lib.hid (show opS c d = true by simp [opS, c1])
      have b1 : (c + d == 0) = true := by simp [c1]
      clear c1 c0
      go_enter Tryz.func104, Tryz.ntmps104
      go_wp2
      go_ret2
      exact ⟨_, rfl, knp_no HO.out, (bl_refl _)⟩
    ·
      have b1 : (c + d == 0) = false := by simp [c1]
      by_cases c2 : c < 0 ↔ c + d < 0
      ·
        have HO := Lib.hid (show opS c d = false from opS_good c0 c1 c2)
        have HZ := Lib.hid c0
        have HZ1 := Lib.hid c1
        by_cases c3 : c < 0
        ·
          have c5 : c + d < 0 := c2.1 c3
          clear c2 c0 c1
          have f1 : decide (c < 0) = true := by simp; omega
          have f2 : decide (c + d < 0) = true := by simp; omega
          go_enter Tryz.func104, Tryz.ntmps104
          go_wp2_with fail
          refine (fdv_any _ _ _ (by omega) HZ.out (by omega)).mono ?_
          rintro e w9 ⟨rfl, rfl⟩
          go_wp2_with fail
          refine (fdv_any _ _ _ (by omega) HZ1.out (by omega)).mono ?_
          rintro e w9 ⟨rfl, rfl⟩
          go_wp2
          go_ret2
          exact ⟨_, rfl, knp_at HO.out rfl, (bl_refl _)⟩
        ·
          have c5 : ¬ c + d < 0 := fun h => c3 (c2.2 h)
          have c6 : 0 < c := by omega
          have c7 : 0 < c + d := by omega
          clear c2 c0 c1
          have f1 : decide (c < 0) = false := by simp; omega
          have f2 : decide (c + d < 0) = false := by simp; omega
          go_enter Tryz.func104, Tryz.ntmps104
          go_wp2_with fail
          refine (fdv_any _ _ _ (by omega) HZ.out (by omega)).mono ?_
          rintro e w9 ⟨rfl, rfl⟩
          go_wp2_with fail
          refine (fdv_any _ _ _ (by omega) HZ1.out (by omega)).mono ?_
          rintro e w9 ⟨rfl, rfl⟩
          go_wp2
          go_ret2
          exact ⟨_, rfl, knp_at HO.out rfl, (bl_refl _)⟩
      ·
        have HO := Lib.hid (show opS c d = true from opS_bad c2)
        by_cases c3 : c < 0
        ·
          have c5 : ¬ c + d < 0 := fun h => c2 ⟨fun _ => h, fun _ => c3⟩
          have c7 : 0 < c + d := by omega
          have f1 : decide (c < 0) = true := by simp; omega
          have f2 : decide (c + d < 0) = false := by simp; omega
          clear c2 c0 c1
          go_enter Tryz.func104, Tryz.ntmps104
          go_wp2
          go_ret2
          exact ⟨_, rfl, knp_no HO.out, (bl_refl _)⟩
        ·
          have c5 : c + d < 0 := Classical.byContradiction fun h => c2 ⟨fun x => absurd x c3, fun x => absurd x h⟩
          have c7 : 0 < c := by omega
          have f1 : decide (c < 0) = false := by simp; omega
          have f2 : decide (c + d < 0) = true := by simp; omega
          clear c2 c0 c1
          go_enter Tryz.func104, Tryz.ntmps104
          go_wp2
          go_ret2
          exact ⟨_, rfl, knp_no HO.out, (bl_refl _)⟩

set_option maxRecDepth 100000 in
set_option maxHeartbeats 1600000 in
theorem sknow_any (a b c d : Int) (w : World) (ha : -1000000000 ≤ a ∧ a ≤ 1000000000) (hb : -1000000000 ≤ b ∧ b ≤ 1000000000) (hc : -1000000000 ≤ c ∧ c ≤ 1000000000) (hd : -1000000000 ≤ d ∧ d ≤ 1000000000) :
    Calls Tryz.prog 57 #[.agg #[.int .i64 a, .int .i64 b, .int .i64 c, .int .i64 d]] w (KnE a b c d w) := by
  by_cases c0 : c = 0
  ·
    have HO := Lib.hid (show opS c d = true by simp [opS, c0])
    have b0 : (c == 0) = true := by simp [c0]
    clear c0
    go_enter Tryz.func57, Tryz.ntmps57
    go_wp2
    go_ret2
    exact ⟨_, rfl, knp_no HO.out, (bl_alloc (bl_refl _) _)⟩
  ·
    have b0 : (c == 0) = false := by simp [c0]
    by_cases c1 : c + d = 0
    ·
      have HO := Lib.hid (show opS c d = true by simp [opS, c1])
      have b1 : (c + d == 0) = true := by simp [c1]
      clear c1 c0
      go_enter Tryz.func57, Tryz.ntmps57
      go_wp2
      go_ret2
      exact ⟨_, rfl, knp_no HO.out, (bl_alloc (bl_refl _) _)⟩
    ·
      have b1 : (c + d == 0) = false := by simp [c1]
      by_cases c2 : c < 0 ↔ c + d < 0
      ·
        have HO := Lib.hid (show opS c d = false from opS_good c0 c1 c2)
        have HZ := Lib.hid c0
        have HZ1 := Lib.hid c1
        by_cases c3 : c < 0
        ·
          have c5 : c + d < 0 := c2.1 c3
          clear c2 c0 c1
          have f1 : decide (0 < c) = false := by simp; omega
          have f2 : decide (0 < c + d) = false := by simp; omega
          go_enter Tryz.func57, Tryz.ntmps57
          go_wp2_with fail
          refine (sfdv_any _ _ _ (by omega) HZ.out (by omega)).mono ?_
          rintro e w9 ⟨rfl, rfl⟩
          go_wp2_with fail
          refine (sfdv_any _ _ _ (by omega) HZ1.out (by omega)).mono ?_
          rintro e w9 ⟨rfl, rfl⟩
          go_wp2
          go_ret2
          exact ⟨_, rfl, knp_at' HO.out rfl, (bl_alloc (bl_refl _) _)⟩
        ·
          have c5 : ¬ c + d < 0 := fun h => c3 (c2.2 h)
          have c6 : 0 < c := by omega
          have c7 : 0 < c + d := by omega
          clear c2 c0 c1
          have f1 : decide (0 < c) = true := by simp; omega
          have f2 : decide (0 < c + d) = true := by simp; omega
          go_enter Tryz.func57, Tryz.ntmps57
          go_wp2_with fail
          refine (sfdv_any _ _ _ (by omega) HZ.out (by omega)).mono ?_
          rintro e w9 ⟨rfl, rfl⟩
          go_wp2_with fail
          refine (sfdv_any _ _ _ (by omega) HZ1.out (by omega)).mono ?_
          rintro e w9 ⟨rfl, rfl⟩
          go_wp2
          go_ret2
          exact ⟨_, rfl, knp_at' HO.out rfl, (bl_alloc (bl_refl _) _)⟩
      ·
        have HO := Lib.hid (show opS c d = true from opS_bad c2)
        by_cases c3 : c < 0
        ·
          have c5 : ¬ c + d < 0 := fun h => c2 ⟨fun _ => h, fun _ => c3⟩
          have c7 : 0 < c + d := by omega
          have f1 : decide (0 < c) = false := by simp; omega
          have f2 : decide (0 < c + d) = true := by simp; omega
          clear c2 c0 c1
          go_enter Tryz.func57, Tryz.ntmps57
          go_wp2
          go_ret2
          exact ⟨_, rfl, knp_no HO.out, (bl_alloc (bl_refl _) _)⟩
        ·
          have c5 : c + d < 0 := Classical.byContradiction fun h => c2 ⟨fun x => absurd x c3, fun x => absurd x h⟩
          have c7 : 0 < c := by omega
          have f1 : decide (0 < c) = true := by simp; omega
          have f2 : decide (0 < c + d) = false := by simp; omega
          clear c2 c0 c1
          go_enter Tryz.func57, Tryz.ntmps57
          go_wp2
          go_ret2
          exact ⟨_, rfl, knp_no HO.out, (bl_alloc (bl_refl _) _)⟩

end Go.Proofs.YtgkelemfbmmgnaaGreat

