/- Laws on comparisons of sources: what they share. Each theorem names its conditions. -/
import Derived.Test.YtgmofofokhlhnaaCmpS
import Derived.Test.YtgmofofokhlhnaaSrcI
import Derived.Test.YtgmofofokhlhnaaSrcS
namespace Go.Proofs.Ytgmofofokhlhnaa
open Go.RowKit
set_option linter.unusedVariables false
set_option linter.unusedSimpArgs false

theorem ivalid_eqL {h p g : Value} {s : Src} {b : Bool} (e : okSrc s = b) (w : World) (ha : SlS w h p g s) : Calls Try.prog 78 #[.agg #[h, p, g]] w fun e w' => e = .returned (.bool b) ∧ Bl w w' := e ▸ ivalid_any h p g s w ha
theorem svalid_eqL {h p g : Value} {s : Src} {b : Bool} (e : okSrc s = b) (w : World) (x : Nat) (ha : SlS w h p g s) (hx : Bx w x #[h, p, g]) : Calls Try.prog 89 #[.pointer (some ⟨x, 0, none⟩)] w fun e w' => e = .returned (.bool b) ∧ Bl w w' := e ▸ svalid_any h p g s w x ha hx
theorem within_eq {n lo hi : Int} {b : Bool} (h : inB n lo hi = b) (w : World) : Calls Try.prog 95 #[.int .i64 n, .int .i64 lo, .int .i64 hi] w fun e w' => e = .returned (.bool b) ∧ w = w' := h ▸ within_any n lo hi w
theorem in_eq {n lo hi : Int} {b : Bool} (h : inB n lo hi = b) (w : World) : Calls Try.prog 93 #[.int .i64 n, .int .i64 lo, .int .i64 hi] w fun e w' => e = .returned (.bool b) ∧ w = w' := h ▸ in_any n lo hi w
set_option maxHeartbeats 400000 in
theorem isMost_eq {m : Int} {b : Bool} (h : inB m 1 1000 = b) (w : World) : Calls Try.prog 79 #[.int .i64 m] w fun e w' => e = .returned (.bool b) ∧ w = w' := by
  have H := Lib.hid h
  clear h
  go_enter Try.func79, Try.ntmps79
  go_wp2_with fail
  refine (within_eq H.out _).mono ?_
  rintro e w' ⟨rfl, rfl⟩
  go_wp2
  go_ret
  exact ⟨rfl, rfl⟩
theorem okSrc_H {s : Src} (h : okSrc s = true) : OkSrc s := okSrc_iff.1 h
/-- The code of two sources and a number of terms. -/
noncomputable def code17 (s t : Src) (m : Int) : Int := if okSrc s && okSrc t then (if inB m 1 1000 then 0 else 2) else 1
theorem ret_ii2 {r : Int × Int} {x b : Int} (h : r = (x, b)) : Ending.returned (.tuple #[.int .i64 x, .int .i64 b]) = .returned (.tuple #[.int .i64 r.1, .int .i64 r.2]) := by subst h; rfl

set_option maxRecDepth 100000 in
set_option maxHeartbeats 1600000 in
theorem code17_any (h p g : Value) (s : Src) (h' p' g' : Value) (t : Src) (m : Int) (w : World) (x y : Nat) (hs : SlS w h p g s) (ht : SlS w h' p' g' t) (hx : Bx w x #[h, p, g]) (hy : Bx w y #[h', p', g']) :
    Calls Try.prog 82 #[.pointer (some ⟨x, 0, none⟩), .pointer (some ⟨y, 0, none⟩), .int .i64 m] w fun e w' => e = .returned (.int .i64 (code17 s t m)) ∧ Bl w w' := by
  cases e1 : okSrc s with
  | false =>
    have HR := Lib.hid (show (1 : Int) = code17 s t m by simp [code17, e1])
    have E1 := Lib.hid e1
    clear e1
    go_enter Try.func82, Try.ntmps82
    go_wp2_with fail
    refine (svalid_eqL E1.out _ x hs hx).mono ?_
    rintro e w1 ⟨rfl, hb1⟩
    have B1 : Bl w w1 := bl_call (bl_refl _) hb1
    go_wp2
    go_ret
    exact ⟨ret_int HR.out, B1⟩
  | true =>
    cases e2 : okSrc t with
    | false =>
      have HR := Lib.hid (show (1 : Int) = code17 s t m by simp [code17, e1, e2])
      have E1 := Lib.hid e1
      clear e1
      have E2 := Lib.hid e2
      clear e2
      go_enter Try.func82, Try.ntmps82
      go_wp2_with fail
      refine (svalid_eqL E1.out _ x hs hx).mono ?_
      rintro e w1 ⟨rfl, hb1⟩
      have B1 : Bl w w1 := bl_call (bl_refl _) hb1
      go_wp2_with fail
      refine (svalid_eqL E2.out _ y (ht.below hb1) (hy.below hb1)).mono ?_
      rintro e w2 ⟨rfl, hb2⟩
      have B2 : Bl w w2 := bl_call B1 hb2
      go_wp2
      go_ret
      exact ⟨ret_int HR.out, B2⟩
    | true =>
      cases e3 : inB m 1 1000 with
      | false =>
        have HR := Lib.hid (show (2 : Int) = code17 s t m by simp [code17, e1, e2, e3])
        have E1 := Lib.hid e1
        clear e1
        have E2 := Lib.hid e2
        clear e2
        have E3 := Lib.hid e3
        clear e3
        go_enter Try.func82, Try.ntmps82
        go_wp2_with fail
        refine (svalid_eqL E1.out _ x hs hx).mono ?_
        rintro e w1 ⟨rfl, hb1⟩
        have B1 : Bl w w1 := bl_call (bl_refl _) hb1
        go_wp2_with fail
        refine (svalid_eqL E2.out _ y (ht.below hb1) (hy.below hb1)).mono ?_
        rintro e w2 ⟨rfl, hb2⟩
        have B2 : Bl w w2 := bl_call B1 hb2
        go_wp2_with fail
        refine (in_eq E3.out _).mono ?_
        rintro e w9 ⟨rfl, rfl⟩
        go_wp2
        go_ret
        exact ⟨ret_int HR.out, B2⟩
      | true =>
        have HR := Lib.hid (show (0 : Int) = code17 s t m by simp [code17, e1, e2, e3])
        have E1 := Lib.hid e1
        clear e1
        have E2 := Lib.hid e2
        clear e2
        have E3 := Lib.hid e3
        clear e3
        go_enter Try.func82, Try.ntmps82
        go_wp2_with fail
        refine (svalid_eqL E1.out _ x hs hx).mono ?_
        rintro e w1 ⟨rfl, hb1⟩
        have B1 : Bl w w1 := bl_call (bl_refl _) hb1
        go_wp2_with fail
        refine (svalid_eqL E2.out _ y (ht.below hb1) (hy.below hb1)).mono ?_
        rintro e w2 ⟨rfl, hb2⟩
        have B2 : Bl w w2 := bl_call B1 hb2
        go_wp2_with fail
        refine (in_eq E3.out _).mono ?_
        rintro e w9 ⟨rfl, rfl⟩
        go_wp2
        go_ret
        exact ⟨ret_int HR.out, B2⟩

theorem code17_zero {s t : Src} {m : Int} (h : code17 s t m = 0) : okSrc s = true ∧ okSrc t = true ∧ 1 ≤ m ∧ m ≤ 1000 := by
  unfold code17 at h
  cases e1 : okSrc s <;> cases e2 : okSrc t <;> cases e3 : inB m 1 1000 <;> simp [e1, e2, e3] at h
  have := inB_iff.1 e3
  exact ⟨rfl, rfl, this.1, this.2⟩

end Go.Proofs.Ytgmofofokhlhnaa
