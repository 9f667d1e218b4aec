/- Some of the texts of this claim, joined in one file: Same, Fin. -/
import Derived.Test.YtgkelemfbmmgnaaGreatMSv35
import Derived.Test.YtgkelemfbmmgnaaGreatMSv1
/- Equality of sources: the program and the reference. -/
namespace Go.Proofs.YtgkelemfbmmgnaaGreat
open Go.RowKit
set_option linter.unusedVariables false
set_option linter.unusedSimpArgs false


theorem Sl.drewN {w : World} {v : Value} {xs : List Int} (h : Sl w v xs) (n : Nat) : Sl (w.drewN n) v xs := h
/-- Whether two sources are equal. -/
def sameSrc (s t : Src) : Bool := decide (s.H = t.H) && decide (s.P = t.P) && decide (s.G = t.G)

theorem lsame_q {va vb : Value} {xs ys : List Int} {w : World} (ha : Sl w va xs) (hb : Sl w vb ys) {b : Bool} (hd : decide (xs = ys) = b) :
    Calls Tryz.prog 92 #[va, vb] w fun e w' => e = .returned (.bool b) ∧ ∃ m, w' = w.drewN m :=
  (lsame_any va vb xs ys w ha hb).mono fun _ _ h => ⟨by rw [h.1, hd], h.2⟩

set_option maxRecDepth 100000 in
set_option maxHeartbeats 1600000 in
theorem l15same_any (h p g : Value) (s : Src) (h' p' g' : Value) (t : Src) (w : World) (x y : Nat) (ha : SlS w h p g s) (hb : SlS w h' p' g' t) (hx : Bx w x #[h, p, g]) (hy : Bx w y #[h', p', g']) :
    Calls Tryz.prog 59 #[.pointer (some ⟨x, 0, none⟩), .pointer (some ⟨y, 0, none⟩)] w fun e w' => e = .returned (.bool (sameSrc s t)) ∧ Bl w w' := by
  obtain ⟨a1, a2, a3⟩ := ha
  obtain ⟨b1, b2, b3⟩ := hb
  obtain ⟨cx, fx, zx⟩ := hx.out
  obtain ⟨cy, fy, zy⟩ := hy.out
  cases e1 : decide (s.H = t.H) with
  | false =>
    have HR := Lib.hid (show false = sameSrc s t by rw [sameSrc, e1]; rfl)
    go_enter Tryz.func59, Tryz.ntmps59
    go_wp2
    go_quiet ((first | (go_at_call_of 92 (h); exact Calls.quiet_of (lsame_q (w := w.drewN _) a1 b1 e1))))
    go_wp2
    go_ret
    exact ⟨ret_bool HR.out, Drawn.below ⟨_, rfl⟩ _⟩
  | true =>
    cases e2 : decide (s.P = t.P) with
    | false =>
      have HR := Lib.hid (show false = sameSrc s t by rw [sameSrc, e1, e2]; rfl)
      go_enter Tryz.func59, Tryz.ntmps59
      go_wp2
      go_quiet ((first | (go_at_call_of 92 (h); exact Calls.quiet_of (lsame_q (w := w.drewN _) a1 b1 e1)) | (go_at_call_of 92 (p); exact Calls.quiet_of (lsame_q (w := w.drewN _) a2 b2 e2))))
      go_wp2
      go_ret
      exact ⟨ret_bool HR.out, Drawn.below ⟨_, rfl⟩ _⟩
    | true =>
      cases e3 : decide (s.G = t.G) with
      | false =>
        have HR := Lib.hid (show false = sameSrc s t by rw [sameSrc, e1, e2, e3]; rfl)
        go_enter Tryz.func59, Tryz.ntmps59
        go_wp2
        go_quiet ((first | (go_at_call_of 92 (h); exact Calls.quiet_of (lsame_q (w := w.drewN _) a1 b1 e1)) | (go_at_call_of 92 (p); exact Calls.quiet_of (lsame_q (w := w.drewN _) a2 b2 e2)) | (go_at_call_of 92 (g); exact Calls.quiet_of (lsame_q (w := w.drewN _) a3 b3 e3))))
        go_wp2
        go_ret
        exact ⟨ret_bool HR.out, Drawn.below ⟨_, rfl⟩ _⟩
      | true =>
        have HR := Lib.hid (show true = sameSrc s t by rw [sameSrc, e1, e2, e3]; rfl)
        go_enter Tryz.func59, Tryz.ntmps59
        go_wp2
        go_quiet ((first | (go_at_call_of 92 (h); exact Calls.quiet_of (lsame_q (w := w.drewN _) a1 b1 e1)) | (go_at_call_of 92 (p); exact Calls.quiet_of (lsame_q (w := w.drewN _) a2 b2 e2)) | (go_at_call_of 92 (g); exact Calls.quiet_of (lsame_q (w := w.drewN _) a3 b3 e3))))
        go_wp2
        go_ret
        exact ⟨ret_bool HR.out, Drawn.below ⟨_, rfl⟩ _⟩

theorem spec_SameSource (h p g : Value) (s : Src) (h' p' g' : Value) (t : Src) (w : World) (ha : SlS w h p g s) (hb : SlS w h' p' g' t) :
    Calls Tryz.prog 17 #[.agg #[h, p, g], .agg #[h', p', g']] w fun e w' => e = .returned (.bool (sameSrc s t)) ∧ Bl w w' := by
  go_enter Tryz.func17, Tryz.ntmps17
  go_wp2_with fail
  refine (l15same_any h p g s h' p' g' t _ _ _ ((ha.alloc _).alloc _) ((hb.alloc _).alloc _) ((Bx.new _ _ _ rfl).alloc _) (Bx.new _ _ _ (by simp))).mono ?_
  rintro e w1 ⟨rfl, hb1⟩
  go_wp2
  go_ret
  exact ⟨rfl, bl_call (bl_alloc (bl_alloc (bl_refl _) _) _) hb1⟩

end Go.Proofs.YtgkelemfbmmgnaaGreat

/- The laws' equality of lists of numbers. Each theorem names its conditions. -/
namespace Go.Proofs.YtgkelemfbmmgnaaGreat
open Go.RowKit
set_option linter.unusedVariables false
set_option linter.unusedSimpArgs false

set_option maxHeartbeats 400000 in
theorem f6ints_any (va vb : Value) (xs ys : List Int) (w : World) (ha : Sl w va xs) (hb : Sl w vb ys) :
    Calls Tryz.prog 18 #[va, vb] w fun e w' => e = .returned (.bool (decide (xs = ys))) ∧ Drawn w w' := by
  have la := ha.len
  have lb := hb.len
  obtain ⟨a, ca, rfl, h1, h2, h3, h4, h5⟩ := ha
  obtain ⟨b, cb, rfl, g1, g2, g3, g4, g5⟩ := hb
  by_cases hl : xs.length = ys.length
  · have hne : ((xs.length : Int) != (ys.length : Int)) = false := by simp [hl]
    have HL := Lib.hid hl
    have hle : xs.length ≤ ys.length := by omega
    clear hl
    go_enter Tryz.func18, Tryz.ntmps18
    go_wp2
    go_loopw [5] (fun i wr => ∃ k : Nat, k ≤ xs.length ∧ i = .int .i64 k ∧ xs.take k = ys.take k ∧ Drawn w wr) (fun i _ => xs.length - (intOf i).toNat)
    case atStart => exact ⟨0, Nat.zero_le _, rfl, by simp, Drawn.refl _⟩
    case round =>
      obtain ⟨k, hk, rfl, ht, nd, rfl⟩ := hrel
      have HT := Lib.hid ht
      clear ht
      by_cases hlt : k < xs.length
      · rcases h5 with h5 | ⟨p, o, rfl, hc⟩
        · have : xs.length = 0 := by rw [h5]; rfl
          omega
        rcases g5 with g5 | ⟨q, r, rfl, gc⟩
        · have : ys.length = 0 := by rw [g5]; rfl
          omega
        obtain ⟨x, hx⟩ : ∃ x, xs[k]? = some x := ⟨_, List.getElem?_eq_getElem hlt⟩
        obtain ⟨y, hy⟩ : ∃ y, ys[k]? = some y := ⟨_, List.getElem?_eq_getElem (by omega)⟩
        have c1 : w.cell? ⟨p, o + k, none⟩ = some (.int .i64 x) := hc k x hx
        have c2 : w.cell? ⟨q, r + k, none⟩ = some (.int .i64 y) := gc k y hy
        have HX := Lib.hid hx
        have HY := Lib.hid hy
        have hkys : k < ys.length := by omega
        clear hx hy hc gc h3 g3 h4 g4
        by_cases hxy : x = y
        · subst hxy
          have hn : (x != x) = false := by simp
          go_wp2
          go_quiet (fail)
          go_wp2
          go_roundw
          case rel => exact ⟨k + 1, by omega, by go_num, by rw [List.take_add_one, List.take_add_one, HT.out, HX.out, HY.out], _, rfl⟩
          case measure => simp [intOf]; omega
        · have hn : (x != y) = true := by simp [hxy]
          go_wp2
          go_quiet (fail)
          go_wp2
          go_ret
          exact ⟨ret_bool (by
            refine (decide_eq_false ?_).symm
            intro e
            rw [e] at HX
            exact hxy (Option.some.inj (HX.out.symm.trans HY.out))), Drawn.more ⟨nd, rfl⟩ _⟩
      · go_wp2
        go_ret
        exact ⟨ret_bool (by
          refine (decide_eq_true ?_).symm
          have e := HT.out
          rw [List.take_of_length_le (by omega), List.take_of_length_le (by have := HL.out; omega)] at e
          exact e), nd, rfl⟩
  · have hne : ((xs.length : Int) != (ys.length : Int)) = true := by simp; omega
    go_enter Tryz.func18, Tryz.ntmps18
    go_wp2
    go_ret
    exact ⟨ret_bool (by refine (decide_eq_false ?_).symm; intro e; rw [e] at hl; exact hl rfl), Drawn.refl _⟩


end Go.Proofs.YtgkelemfbmmgnaaGreat

