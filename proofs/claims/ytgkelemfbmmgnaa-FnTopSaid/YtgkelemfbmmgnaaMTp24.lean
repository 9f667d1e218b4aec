/- Some of the texts of this claim, joined in one file: DbS, DbO. -/
import Derived.Test.YtgkelemfbmmgnaaMTp23
import Derived.Deep.RegionLaw
import Derived.StillTailTactics
/- A run of a function of two numbers: the reference. Each theorem names its conditions. -/
namespace Go.Proofs.Ytgkelemfbmmgnaa
open Go.RowKit
set_option linter.unusedVariables false
set_option linter.unusedSimpArgs false


theorem own_madeAt (X : World) {B k : Nat} (hk : k = X.heap.size) (hB : B ≤ X.heap.size) : Own (X.alloc (.cells #[] 2)) B (.slice (some ⟨k, 0, none⟩) 0 0) [] := by subst hk; exact own_made X hB

end Go.Proofs.Ytgkelemfbmmgnaa

/- RunDouble and OperateTerms: the program and the reference give the same. Each theorem names its conditions. -/
namespace Go.Proofs.Ytgkelemfbmmgnaa
open Go.RowKit
set_option linter.unusedVariables false
set_option linter.unusedSimpArgs false


theorem emd_len {d d' : Db} {out out' : List Int} {b : Bool} : out.length ≤ 60 → emitDF d out = some (d', out', b) → out'.length ≤ 60 := by
  have key : ∀ f d out, out.length ≤ 60 → emitDN f d out = some (d', out', b) → out'.length ≤ 60 := by
    intro f
    induction f with
    | zero => intro d out _ h; cases h
    | succ f ih =>
      intro d out hl h
      rw [emitDN] at h
      split at h
      · injection h with h; injection h with h1 h2; injection h2 with h2 h3; subst h2; exact hl
      · split at h
        · cases h
        · split at h
          · split at h
            · injection h with h; injection h with h1 h2; injection h2 with h2 h3; subst h2; simp; omega
            · exact ih _ _ (by simp; omega) h
          · cases h
  intro hl h
  exact key _ d out hl h
theorem restF_len (s : St) (out ts : List Int) : (restF s out ts).1.length ≤ 1048576 := by
  unfold restF
  split
  · simp
  · rename_i r _
    cases runG ts r.1 r.2 with
    | none => simp [runR]
    | some q => exact endF_len q.1 q.2
theorem runDF_len (xs ys : List Int) (i : Nat) (d : Db) (out : List Int) (hl : out.length ≤ 60) : (runDF xs ys i d out).1.length ≤ 1048576 := by
  have key : ∀ f i d out, out.length ≤ 60 → (runDN xs ys f i d out).1.length ≤ 1048576 := by
    intro f
    induction f with
    | zero => intro i d out _; simp [runDN]
    | succ f ih =>
      intro i d out hl
      have step : ∀ d' : Db, (if okD d' then (if i = 0 then runDN xs ys f (i + 1) d' out else match emitDF d' out with
        | none => (([] : List Int), (5 : Int))
        | some r => if r.2.2 then (shortL r.2.1, 0) else runDN xs ys f (i + 1) r.1 r.2.1) else ([], 5)).1.length ≤ 1048576 := by
        intro d'
        split
        · split
          · exact ih _ _ _ hl
          · split
            · simp
            · rename_i r hr
              have hl2 := emd_len (d' := r.1) (out' := r.2.1) (b := r.2.2) hl hr
              split
              · have := shortL_len r.2.1
                show (shortL r.2.1).length ≤ 1048576
                omega
              · exact ih _ _ _ hl2
        · simp
      rw [runDN]
      split
      · split
        · exact restF_len _ _ _
        · exact step _
      · split
        · exact restF_len _ _ _
        · exact step _
  exact key _ i d out hl
/-- RunDouble: terms, and a code. -/
noncomputable def rdF (x0 x1 x2 x3 x4 x5 x6 x7 : Int) (xs ys : List Int) : List Int × Int :=
  if okD (⟨x0, x1, x2, x3, x4, x5, x6, x7⟩ : Db) then (if termsP xs then (if termsP ys then runDF xs ys 0 (⟨x0, x1, x2, x3, x4, x5, x6, x7⟩ : Db) [] else ([], 1)) else ([], 1)) else ([], 1)
theorem rdF_len (x0 x1 x2 x3 x4 x5 x6 x7 : Int) (xs ys : List Int) : (rdF x0 x1 x2 x3 x4 x5 x6 x7 xs ys).1.length ≤ 1048576 := by
  unfold rdF
  split
  · split
    · split
      · exact runDF_len _ _ _ _ _ (by simp)
      · simp
    · simp
  · simp
def forD (op : Int) : Db := if op = 1 then ⟨0, 1, 1, 0, 0, 0, 0, 1⟩ else if op = 2 then ⟨0, 1, -1, 0, 0, 0, 0, 1⟩ else if op = 3 then ⟨1, 0, 0, 0, 0, 0, 0, 1⟩ else ⟨0, 1, 0, 0, 0, 0, 1, 0⟩
theorem forD_bd (op : Int) : bdD (forD op) = true := by
  unfold forD
  split
  · rfl
  · split
    · rfl
    · split <;> rfl
/-- OperateTerms: terms, and a code. -/
noncomputable def opF (op : Int) (xs ys : List Int) : List Int × Int :=
  if termsP xs then (if termsP ys then (if inB op 1 4 then runDF xs ys 0 (forD op) [] else ([], 2)) else ([], 1)) else ([], 1)
theorem opF_len (op : Int) (xs ys : List Int) : (opF op xs ys).1.length ≤ 1048576 := by
  unfold opF
  split
  · split
    · split
      · exact runDF_len _ _ _ _ _ (by simp)
      · simp
    · simp
  · simp
theorem finp_at {R : List Int × Int} {w w1 w' : World} {e : Ending} (hb : Bl w w1) (h : FinP R w1 e w') : FinP R w e w' := by
  obtain ⟨x, n, k, h1, h2, h3⟩ := h
  exact ⟨x, n, k, h1, h2.mono hb.size, bl_call hb h3⟩

theorem iop_any {op : Int} {b : Bool} (h : inB op 1 4 = b) (w : World) : Calls Try.prog 61 #[.int .i64 op] w fun e w' => e = .returned (.bool b) ∧ w = w' := by
  have H := Lib.hid h
  clear h
  go_enter Try.func61, Try.ntmps61
  go_wp2_with fail
  refine (inB_eqS H.out _).mono ?_
  rintro e w9 ⟨rfl, hw⟩
  go_wp2
  go_ret
  exact ⟨rfl, hw⟩
set_option maxRecDepth 100000 in
set_option maxHeartbeats 3200000 in
theorem ifor_any (op : Int) (h : inB op 1 4 = true) (w : World) : Calls Try.prog 63 #[.int .i64 op] w fun e w' => e = .returned (.agg #[.int .i64 (forD op).a, .int .i64 (forD op).b, .int .i64 (forD op).c, .int .i64 (forD op).d, .int .i64 (forD op).e, .int .i64 (forD op).f, .int .i64 (forD op).g, .int .i64 (forD op).h]) ∧ Bl w w' := by
  have h := inB_iff.1 h
  rcases (show op = 1 ∨ op = 2 ∨ op = 3 ∨ op = 4 by omega) with rfl | rfl | rfl | rfl
  · clear h
    go_enter Try.func63, Try.ntmps63
    go_wp2
    refine bodyPost_ret (v := .agg #[.int .i64 0, .int .i64 1, .int .i64 1, .int .i64 0, .int .i64 0, .int .i64 0, .int .i64 0, .int .i64 1]) (by simp only [results, Try.results63]; go_simp) rfl ⟨rfl, ?_⟩
    repeat first | (with_reducible exact bl_refl _) | (with_reducible refine bl_alloc ?_ _) | (with_reducible refine bl_set ?_ (by first | exact Nat.le_refl _ | (simp; done) | (simp; omega)) _)
  · clear h
    go_enter Try.func63, Try.ntmps63
    go_wp2
    refine bodyPost_ret (v := .agg #[.int .i64 0, .int .i64 1, .int .i64 (-1), .int .i64 0, .int .i64 0, .int .i64 0, .int .i64 0, .int .i64 1]) (by simp only [results, Try.results63]; go_simp) rfl ⟨rfl, ?_⟩
    repeat first | (with_reducible exact bl_refl _) | (with_reducible refine bl_alloc ?_ _) | (with_reducible refine bl_set ?_ (by first | exact Nat.le_refl _ | (simp; done) | (simp; omega)) _)
  · clear h
    go_enter Try.func63, Try.ntmps63
    go_wp2
    refine bodyPost_ret (v := .agg #[.int .i64 1, .int .i64 0, .int .i64 0, .int .i64 0, .int .i64 0, .int .i64 0, .int .i64 0, .int .i64 1]) (by simp only [results, Try.results63]; go_simp) rfl ⟨rfl, ?_⟩
    repeat first | (with_reducible exact bl_refl _) | (with_reducible refine bl_alloc ?_ _) | (with_reducible refine bl_set ?_ (by first | exact Nat.le_refl _ | (simp; done) | (simp; omega)) _)
  · clear h
    go_enter Try.func63, Try.ntmps63
    go_wp2
    refine bodyPost_ret (v := .agg #[.int .i64 0, .int .i64 1, .int .i64 0, .int .i64 0, .int .i64 0, .int .i64 0, .int .i64 1, .int .i64 0]) (by simp only [results, Try.results63]; go_simp) rfl ⟨rfl, ?_⟩
    repeat first | (with_reducible exact bl_refl _) | (with_reducible refine bl_alloc ?_ _) | (with_reducible refine bl_set ?_ (by first | exact Nat.le_refl _ | (simp; done) | (simp; omega)) _)

set_option maxRecDepth 100000 in
set_option maxHeartbeats 3200000 in
theorem impl_OperateTerms (op : Int) (vx : Value) (xs : List Int) (vy : Value) (ys : List Int) (w : World) (hx : Sl w vx xs) (lx : xs.length ≤ 1048576) (hy : Sl w vy ys) (ly : ys.length ≤ 1048576) :
    Calls Try.prog 25 #[.int .i64 op, vx, vy] w (FinP (opF op xs ys) w) := by
  have HX := Lib.hid hx
  have HY := Lib.hid hy
  obtain ⟨ax, cx, rfl, _⟩ := hx.form'
  obtain ⟨ay, cy, rfl, _⟩ := hy.form'
  clear hx hy
  cases e1 : termsP xs with
  | false =>
    have HR := Lib.hid (show opF op xs ys = ([], 1) by simp [opF, e1])
    have E1 := Lib.hid e1
    clear e1
    go_enter Try.func25, Try.ntmps25
    go_wp2_with fail
    refine (ivalT_eqN E1.out _ HX.out lx).mono ?_
    rintro e w1 ⟨rfl, hb1⟩
    have B1 : Bl w w1 := bl_call (bl_refl _) hb1
    go_wp2
    go_ret2
    exact finp_no HR.out B1
  | true =>
    cases e2 : termsP ys with
    | false =>
      have HR := Lib.hid (show opF op xs ys = ([], 1) by simp [opF, e1, e2])
      have E1 := Lib.hid e1
      clear e1
      have E2 := Lib.hid e2
      clear e2
      go_enter Try.func25, Try.ntmps25
      go_wp2_with fail
      refine (ivalT_eqN E1.out _ HX.out lx).mono ?_
      rintro e w1 ⟨rfl, hb1⟩
      have B1 : Bl w w1 := bl_call (bl_refl _) hb1
      go_wp2_with fail
      refine (ivalT_eqN E2.out _ (HY.out.below B1) ly).mono ?_
      rintro e w2 ⟨rfl, hb2⟩
      have B2 : Bl w w2 := bl_call B1 hb2
      go_wp2
      go_ret2
      exact finp_no HR.out B2
    | true =>
      cases e3 : inB op 1 4 with
      | false =>
        have HR := Lib.hid (show opF op xs ys = ([], 2) by simp [opF, e1, e2, e3])
        have E1 := Lib.hid e1
        clear e1
        have E2 := Lib.hid e2
        clear e2
        have E3 := Lib.hid e3
        clear e3
        go_enter Try.func25, Try.ntmps25
        go_wp2_with fail
        refine (ivalT_eqN E1.out _ HX.out lx).mono ?_
        rintro e w1 ⟨rfl, hb1⟩
        have B1 : Bl w w1 := bl_call (bl_refl _) hb1
        go_wp2_with fail
        refine (ivalT_eqN E2.out _ (HY.out.below B1) ly).mono ?_
        rintro e w2 ⟨rfl, hb2⟩
        have B2 : Bl w w2 := bl_call B1 hb2
        go_wp2_with fail
        refine (iop_any E3.out _).mono ?_
        rintro e w9 ⟨rfl, rfl⟩
        go_wp2
        go_ret2
        exact finp_no HR.out B2
      | true =>
        have HR := Lib.hid (show opF op xs ys = runDF xs ys 0 (forD op) [] by simp [opF, e1, e2, e3])
        have E1 := Lib.hid e1
        clear e1
        have E2 := Lib.hid e2
        clear e2
        have E3 := Lib.hid e3
        clear e3
        go_enter Try.func25, Try.ntmps25
        go_wp2_with fail
        refine (ivalT_eqN E1.out _ HX.out lx).mono ?_
        rintro e w1 ⟨rfl, hb1⟩
        have B1 : Bl w w1 := bl_call (bl_refl _) hb1
        go_wp2_with fail
        refine (ivalT_eqN E2.out _ (HY.out.below B1) ly).mono ?_
        rintro e w2 ⟨rfl, hb2⟩
        have B2 : Bl w w2 := bl_call B1 hb2
        go_wp2_with fail
        refine (iop_any E3.out _).mono ?_
        rintro e w9 ⟨rfl, rfl⟩
        go_wp2_with fail
        refine (ifor_any op E3.out _).mono ?_
        rintro e w3 ⟨rfl, hb3⟩
        have B3 : Bl w w3 := bl_call B2 hb3
        go_wp2_with fail
        have HH := irun_any (d := forD op) (HX.out.below B3) (HY.out.below B3) (forD_bd op) E1.out E2.out
        refine HH.mono ?_
        clear HH
        rintro e wf hF
        have hF2 := finp_is HR.out (finp_at B3 hF)
        obtain ⟨y, yn, yc, rfl, hy, hBy⟩ := hF
        go_wp2
        go_ret2
        exact hF2

end Go.Proofs.Ytgkelemfbmmgnaa

