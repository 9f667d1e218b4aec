/- Equality of sources: the program and the reference. -/
import Derived.Test.YtggpldbihndgmaaEq
namespace Go.Proofs.Ytggpldbihndgmaa
open Go.RowKit
set_option linter.unusedVariables false
set_option linter.unusedSimpArgs false


theorem Sl.drewN {w : World} {v : Value} {xs : List Int} (h : Sl w v xs) (n : Nat) : Sl (w.drewN n) v xs := h
/-- Whether two sources are equal. -/
def sameSrc (s t : Src) : Bool := decide (s.H = t.H) && decide (s.P = t.P) && decide (s.G = t.G)

set_option maxHeartbeats 800000 in
theorem impl_SameSource (h p g : Value) (s : Src) (h' p' g' : Value) (t : Src) (w : World) (ha : SlS w h p g s) (hb : SlS w h' p' g' t) :
    Calls Try.prog 23 #[.agg #[h, p, g], .agg #[h', p', g']] w fun e w' => e = .returned (.bool (sameSrc s t)) ∧ Bl w w' := by
  obtain ⟨a1, a2, a3⟩ := ha
  obtain ⟨b1, b2, b3⟩ := hb
  cases e1 : decide (s.H = t.H) with
  | false =>
    have HR := Lib.hid (show false = sameSrc s t by rw [sameSrc, e1]; rfl)
    go_enter Try.func23, Try.ntmps23
    go_wp2_with (go_at_call 52; refine (equal_any _ _ _ _ _ ((a1.alloc _).alloc _) ((b1.alloc _).alloc _)).mono ?_; rintro e w' ⟨rfl, nd, rfl⟩)
    go_ret
    exact ⟨ret_bool HR.out, (bl_alloc (bl_alloc (bl_refl _) _) _).trans (Drawn.below ⟨_, rfl⟩ _)⟩
  | true =>
    cases e2 : decide (s.P = t.P) with
    | false =>
      have HR := Lib.hid (show false = sameSrc s t by rw [sameSrc, e1, e2]; rfl)
      go_enter Try.func23, Try.ntmps23
      go_wp2_with fail
      refine (equal_any _ _ _ _ _ ((a1.alloc _).alloc _) ((b1.alloc _).alloc _)).mono ?_
      rintro e w' ⟨rfl, nd, rfl⟩
      go_wp2_with fail
      refine (equal_any _ _ _ _ _ (((a2.alloc _).alloc _).drewN _) (((b2.alloc _).alloc _).drewN _)).mono ?_
      rintro e w' ⟨rfl, nd2, rfl⟩
      go_wp2
      go_ret
      exact ⟨ret_bool HR.out, (bl_alloc (bl_alloc (bl_refl _) _) _).trans (Drawn.below ⟨_, rfl⟩ _)⟩
    | true =>
      have HR := Lib.hid (show decide (s.G = t.G) = sameSrc s t by rw [sameSrc, e1, e2]; rfl)
      go_enter Try.func23, Try.ntmps23
      go_wp2_with fail
      refine (equal_any _ _ _ _ _ ((a1.alloc _).alloc _) ((b1.alloc _).alloc _)).mono ?_
      rintro e w' ⟨rfl, nd, rfl⟩
      go_wp2_with fail
      refine (equal_any _ _ _ _ _ (((a2.alloc _).alloc _).drewN _) (((b2.alloc _).alloc _).drewN _)).mono ?_
      rintro e w' ⟨rfl, nd2, rfl⟩
      go_wp2_with fail
      refine (equal_any _ _ _ _ _ (((a3.alloc _).alloc _).drewN _) (((b3.alloc _).alloc _).drewN _)).mono ?_
      rintro e w' ⟨rfl, nd3, rfl⟩
      go_wp2
      go_ret
      exact ⟨ret_bool HR.out, (bl_alloc (bl_alloc (bl_refl _) _) _).trans (Drawn.below ⟨_, rfl⟩ _)⟩

theorem lsame_q {va vb : Value} {xs ys : List Int} {w : World} (ha : Sl w va xs) (hb : Sl w vb ys) {b : Bool} (hd : decide (xs = ys) = b) :
    Calls Try.prog 85 #[va, vb] w fun e w' => e = .returned (.bool b) ∧ ∃ m, w' = w.drewN m :=
  (lsame_any va vb xs ys w ha hb).mono fun _ _ h => ⟨by rw [h.1, hd], h.2⟩

set_option maxRecDepth 100000 in
set_option maxHeartbeats 1600000 in
theorem l15same_any (h p g : Value) (s : Src) (h' p' g' : Value) (t : Src) (w : World) (x y : Nat) (ha : SlS w h p g s) (hb : SlS w h' p' g' t) (hx : Bx w x #[h, p, g]) (hy : Bx w y #[h', p', g']) :
    Calls Try.prog 50 #[.pointer (some ⟨x, 0, none⟩), .pointer (some ⟨y, 0, none⟩)] w fun e w' => e = .returned (.bool (sameSrc s t)) ∧ Bl w w' := by
  obtain ⟨a1, a2, a3⟩ := ha
  obtain ⟨b1, b2, b3⟩ := hb
  obtain ⟨cx, fx, zx⟩ := hx.out
  obtain ⟨cy, fy, zy⟩ := hy.out
  cases e1 : decide (s.H = t.H) with
  | false =>
    have HR := Lib.hid (show false = sameSrc s t by rw [sameSrc, e1]; rfl)
    go_enter Try.func50, Try.ntmps50
    go_wp2
    go_quiet ((first | (go_at_call_of 85 (h); exact Calls.quiet_of (lsame_q (w := w.drewN _) a1 b1 e1))))
    go_wp2
    go_ret
    exact ⟨ret_bool HR.out, Drawn.below ⟨_, rfl⟩ _⟩
  | true =>
    cases e2 : decide (s.P = t.P) with
    | false =>
      have HR := Lib.hid (show false = sameSrc s t by rw [sameSrc, e1, e2]; rfl)
      go_enter Try.func50, Try.ntmps50
      go_wp2
      go_quiet ((first | (go_at_call_of 85 (h); exact Calls.quiet_of (lsame_q (w := w.drewN _) a1 b1 e1)) | (go_at_call_of 85 (p); exact Calls.quiet_of (lsame_q (w := w.drewN _) a2 b2 e2))))
      go_wp2
      go_ret
      exact ⟨ret_bool HR.out, Drawn.below ⟨_, rfl⟩ _⟩
    | true =>
      cases e3 : decide (s.G = t.G) with
      | false =>
        have HR := Lib.hid (show false = sameSrc s t by rw [sameSrc, e1, e2, e3]; rfl)
        go_enter Try.func50, Try.ntmps50
        go_wp2
        go_quiet ((first | (go_at_call_of 85 (h); exact Calls.quiet_of (lsame_q (w := w.drewN _) a1 b1 e1)) | (go_at_call_of 85 (p); exact Calls.quiet_of (lsame_q (w := w.drewN _) a2 b2 e2)) | (go_at_call_of 85 (g); exact Calls.quiet_of (lsame_q (w := w.drewN _) a3 b3 e3))))
        go_wp2
        go_ret
        exact ⟨ret_bool HR.out, Drawn.below ⟨_, rfl⟩ _⟩
      | true =>
        have HR := Lib.hid (show true = sameSrc s t by rw [sameSrc, e1, e2, e3]; rfl)
        go_enter Try.func50, Try.ntmps50
        go_wp2
        go_quiet ((first | (go_at_call_of 85 (h); exact Calls.quiet_of (lsame_q (w := w.drewN _) a1 b1 e1)) | (go_at_call_of 85 (p); exact Calls.quiet_of (lsame_q (w := w.drewN _) a2 b2 e2)) | (go_at_call_of 85 (g); exact Calls.quiet_of (lsame_q (w := w.drewN _) a3 b3 e3))))
        go_wp2
        go_ret
        exact ⟨ret_bool HR.out, Drawn.below ⟨_, rfl⟩ _⟩

theorem spec_SameSource (h p g : Value) (s : Src) (h' p' g' : Value) (t : Src) (w : World) (ha : SlS w h p g s) (hb : SlS w h' p' g' t) :
    Calls Try.prog 21 #[.agg #[h, p, g], .agg #[h', p', g']] w fun e w' => e = .returned (.bool (sameSrc s t)) ∧ Bl w w' := by
  go_enter Try.func21, Try.ntmps21
  go_wp2_with fail
  refine (l15same_any h p g s h' p' g' t _ _ _ ((ha.alloc _).alloc _) ((hb.alloc _).alloc _) ((Bx.new _ _ _ rfl).alloc _) (Bx.new _ _ _ (by simp))).mono ?_
  rintro e w1 ⟨rfl, hb1⟩
  go_wp2
  go_ret
  exact ⟨rfl, bl_call (bl_alloc (bl_alloc (bl_refl _) _) _) hb1⟩

end Go.Proofs.Ytggpldbihndgmaa
