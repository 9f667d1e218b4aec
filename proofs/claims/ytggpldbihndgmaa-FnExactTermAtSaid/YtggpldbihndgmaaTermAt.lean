/- TermAt: the program and the reference give the same. No condition. -/
import Derived.Test.YtggpldbihndgmaaTerm
import Derived.Test.YtggpldbihndgmaaSrcI
import Derived.Test.YtggpldbihndgmaaSrcS
namespace Go.Proofs.Ytggpldbihndgmaa
open Go.RowKit
set_option linter.unusedVariables false
set_option linter.unusedSimpArgs false

theorem ret_ii' {r : Int × Int} {x b : Int} (h : r = (x, b)) : Ending.returned (.tuple #[.int .i64 x, .int .i64 b]) = .returned (.tuple #[.int .i64 r.1, .int .i64 r.2]) := by subst h; rfl
noncomputable def termAtF (s : Src) (k : Int) : Int × Int :=
  if okS s then (if inB k 0 1000 then (if (termP s k.toNat).2 then ((termP s k.toNat).1, 0) else (0, 3)) else (0, 2)) else (0, 1)

set_option maxRecDepth 100000 in
set_option maxHeartbeats 1600000 in
theorem impl_TermAt (h p g : Value) (s : Src) (k : Int) (w : World) (ha : SlS w h p g s) :
    Calls Try.prog 44 #[.agg #[h, p, g], .int .i64 k] w fun e w' => e = .returned (.tuple #[.int .i64 (termAtF s k).1, .int .i64 (termAtF s k).2]) ∧ Bl w w' := by
  cases e1 : okS s with
  | false =>
    have HR := Lib.hid (show termAtF s k = (0, 1) by simp [termAtF, e1])
    go_enter Try.func44, Try.ntmps44
    go_wp2_with fail
    refine (ivalid_any h p g s _ (ha.below (bl_alloc (bl_refl _) _))).mono ?_
    rintro e w1 ⟨rfl, hb1⟩
    have B1 : Bl w w1 := bl_call (bl_alloc (bl_refl _) _) hb1
    have xS_1 : Bx w1 (w.heap.size) #[h, p, g] := (Bx.new (b := w.heap.size) _ #[h, p, g] 24 (by first | rfl | simp)).below hb1
    obtain ⟨cS_1, fS_1, zS_1⟩ := xS_1.out
    go_wp2
    go_ret2
    exact ⟨ret_ii' HR.out, B1⟩
  | true =>
    cases e2 : inB k 0 1000 with
    | false =>
      have HR := Lib.hid (show termAtF s k = (0, 2) by simp [termAtF, e1, e2])
      go_enter Try.func44, Try.ntmps44
      go_wp2_with fail
      refine (ivalid_any h p g s _ (ha.below (bl_alloc (bl_refl _) _))).mono ?_
      rintro e w1 ⟨rfl, hb1⟩
      have B1 : Bl w w1 := bl_call (bl_alloc (bl_refl _) _) hb1
      have xS_1 : Bx w1 (w.heap.size) #[h, p, g] := (Bx.new (b := w.heap.size) _ #[h, p, g] 24 (by first | rfl | simp)).below hb1
      obtain ⟨cS_1, fS_1, zS_1⟩ := xS_1.out
      go_wp2_with (go_at_call 68; refine (within_any _ _ _ _).mono ?_; rintro e w' ⟨rfl, rfl⟩)
      go_ret2
      exact ⟨ret_ii' HR.out, B1⟩
    | true =>
      have hk := inB_iff.1 e2
      cases e3 : (termP s k.toNat).2 with
      | false =>
        have HR := Lib.hid (show termAtF s k = (0, 3) by simp [termAtF, e1, e2, e3])
        go_enter Try.func44, Try.ntmps44
        go_wp2_with fail
        refine (ivalid_any h p g s _ (ha.below (bl_alloc (bl_refl _) _))).mono ?_
        rintro e w1 ⟨rfl, hb1⟩
        have B1 : Bl w w1 := bl_call (bl_alloc (bl_refl _) _) hb1
        have xS_1 : Bx w1 (w.heap.size) #[h, p, g] := (Bx.new (b := w.heap.size) _ #[h, p, g] 24 (by first | rfl | simp)).below hb1
        obtain ⟨cS_1, fS_1, zS_1⟩ := xS_1.out
        go_wp2_with (go_at_call 68; refine (within_any _ _ _ _).mono ?_; rintro e w' ⟨rfl, rfl⟩)
        refine (iterm_any h p g s k _ (ha.below B1) (okS_iff.1 e1) (by omega) (by omega)).mono ?_
        rintro e w2 ⟨rfl, hb2⟩
        have B2 : Bl w w2 := bl_call B1 hb2
        have xS_2 : Bx w2 (w.heap.size) #[h, p, g] := xS_1.below hb2
        clear cS_1 fS_1 zS_1
        obtain ⟨cS_2, fS_2, zS_2⟩ := xS_2.out
        go_wp2
        go_ret2
        exact ⟨ret_ii' HR.out, B2⟩
      | true =>
        have HR := Lib.hid (show termAtF s k = ((termP s k.toNat).1, 0) by simp [termAtF, e1, e2, e3])
        go_enter Try.func44, Try.ntmps44
        go_wp2_with fail
        refine (ivalid_any h p g s _ (ha.below (bl_alloc (bl_refl _) _))).mono ?_
        rintro e w1 ⟨rfl, hb1⟩
        have B1 : Bl w w1 := bl_call (bl_alloc (bl_refl _) _) hb1
        have xS_1 : Bx w1 (w.heap.size) #[h, p, g] := (Bx.new (b := w.heap.size) _ #[h, p, g] 24 (by first | rfl | simp)).below hb1
        obtain ⟨cS_1, fS_1, zS_1⟩ := xS_1.out
        go_wp2_with (go_at_call 68; refine (within_any _ _ _ _).mono ?_; rintro e w' ⟨rfl, rfl⟩)
        refine (iterm_any h p g s k _ (ha.below B1) (okS_iff.1 e1) (by omega) (by omega)).mono ?_
        rintro e w2 ⟨rfl, hb2⟩
        have B2 : Bl w w2 := bl_call B1 hb2
        have xS_2 : Bx w2 (w.heap.size) #[h, p, g] := xS_1.below hb2
        clear cS_1 fS_1 zS_1
        obtain ⟨cS_2, fS_2, zS_2⟩ := xS_2.out
        go_wp2
        go_ret2
        exact ⟨ret_ii' HR.out, B2⟩

set_option maxRecDepth 100000 in
set_option maxHeartbeats 1600000 in
theorem spec_TermAt (h p g : Value) (s : Src) (k : Int) (w : World) (ha : SlS w h p g s) :
    Calls Try.prog 43 #[.agg #[h, p, g], .int .i64 k] w fun e w' => e = .returned (.tuple #[.int .i64 (termAtF s k).1, .int .i64 (termAtF s k).2]) ∧ Bl w w' := by
  cases e1 : okS s with
  | false =>
    have HR := Lib.hid (show termAtF s k = (0, 1) by simp [termAtF, e1])
    go_enter Try.func43, Try.ntmps43
    go_wp2_with fail
    refine (svalid_any h p g s _ _ (ha.below (bl_alloc (bl_refl _) _)) (Bx.new (b := w.heap.size) _ #[h, p, g] 24 rfl)).mono ?_
    rintro e w1 ⟨rfl, hb1⟩
    have B1 : Bl w w1 := bl_call (bl_alloc (bl_refl _) _) hb1
    have xS_1 : Bx w1 (w.heap.size) #[h, p, g] := (Bx.new (b := w.heap.size) _ #[h, p, g] 24 (by first | rfl | simp)).below hb1
    obtain ⟨cS_1, fS_1, zS_1⟩ := xS_1.out
    go_wp2
    go_ret2
    exact ⟨ret_ii' HR.out, B1⟩
  | true =>
    cases e2 : inB k 0 1000 with
    | false =>
      have HR := Lib.hid (show termAtF s k = (0, 2) by simp [termAtF, e1, e2])
      go_enter Try.func43, Try.ntmps43
      go_wp2_with fail
      refine (svalid_any h p g s _ _ (ha.below (bl_alloc (bl_refl _) _)) (Bx.new (b := w.heap.size) _ #[h, p, g] 24 rfl)).mono ?_
      rintro e w1 ⟨rfl, hb1⟩
      have B1 : Bl w w1 := bl_call (bl_alloc (bl_refl _) _) hb1
      have xS_1 : Bx w1 (w.heap.size) #[h, p, g] := (Bx.new (b := w.heap.size) _ #[h, p, g] 24 (by first | rfl | simp)).below hb1
      obtain ⟨cS_1, fS_1, zS_1⟩ := xS_1.out
      go_wp2_with (go_at_call 73; refine (in_any _ _ _ _).mono ?_; rintro e w' ⟨rfl, rfl⟩)
      go_ret2
      exact ⟨ret_ii' HR.out, B1⟩
    | true =>
      have hk := inB_iff.1 e2
      cases e3 : (termP s k.toNat).2 with
      | false =>
        have HR := Lib.hid (show termAtF s k = (0, 3) by simp [termAtF, e1, e2, e3])
        go_enter Try.func43, Try.ntmps43
        go_wp2_with fail
        refine (svalid_any h p g s _ _ (ha.below (bl_alloc (bl_refl _) _)) (Bx.new (b := w.heap.size) _ #[h, p, g] 24 rfl)).mono ?_
        rintro e w1 ⟨rfl, hb1⟩
        have B1 : Bl w w1 := bl_call (bl_alloc (bl_refl _) _) hb1
        have xS_1 : Bx w1 (w.heap.size) #[h, p, g] := (Bx.new (b := w.heap.size) _ #[h, p, g] 24 (by first | rfl | simp)).below hb1
        obtain ⟨cS_1, fS_1, zS_1⟩ := xS_1.out
        go_wp2_with (go_at_call 73; refine (in_any _ _ _ _).mono ?_; rintro e w' ⟨rfl, rfl⟩)
        refine (sterm_any h p g s k _ _ (ha.below B1) xS_1 (okS_iff.1 e1) (by omega) (by omega)).mono ?_
        rintro e w2 ⟨rfl, hb2⟩
        have B2 : Bl w w2 := bl_call B1 hb2
        have xS_2 : Bx w2 (w.heap.size) #[h, p, g] := xS_1.below hb2
        clear cS_1 fS_1 zS_1
        obtain ⟨cS_2, fS_2, zS_2⟩ := xS_2.out
        go_wp2
        go_ret2
        exact ⟨ret_ii' HR.out, B2⟩
      | true =>
        have HR := Lib.hid (show termAtF s k = ((termP s k.toNat).1, 0) by simp [termAtF, e1, e2, e3])
        go_enter Try.func43, Try.ntmps43
        go_wp2_with fail
        refine (svalid_any h p g s _ _ (ha.below (bl_alloc (bl_refl _) _)) (Bx.new (b := w.heap.size) _ #[h, p, g] 24 rfl)).mono ?_
        rintro e w1 ⟨rfl, hb1⟩
        have B1 : Bl w w1 := bl_call (bl_alloc (bl_refl _) _) hb1
        have xS_1 : Bx w1 (w.heap.size) #[h, p, g] := (Bx.new (b := w.heap.size) _ #[h, p, g] 24 (by first | rfl | simp)).below hb1
        obtain ⟨cS_1, fS_1, zS_1⟩ := xS_1.out
        go_wp2_with (go_at_call 73; refine (in_any _ _ _ _).mono ?_; rintro e w' ⟨rfl, rfl⟩)
        refine (sterm_any h p g s k _ _ (ha.below B1) xS_1 (okS_iff.1 e1) (by omega) (by omega)).mono ?_
        rintro e w2 ⟨rfl, hb2⟩
        have B2 : Bl w w2 := bl_call B1 hb2
        have xS_2 : Bx w2 (w.heap.size) #[h, p, g] := xS_1.below hb2
        clear cS_1 fS_1 zS_1
        obtain ⟨cS_2, fS_2, zS_2⟩ := xS_2.out
        go_wp2
        go_ret2
        exact ⟨ret_ii' HR.out, B2⟩

end Go.Proofs.Ytggpldbihndgmaa
