/- Draws for the laws on floors of sources. Each theorem names its conditions. -/
import Derived.Test.YtgmofofokhlhnaaSdC
import Derived.Test.YtgmofofokhlhnaaSdD
import Derived.Test.YtgmofofokhlhnaaConvAt
namespace Go.Proofs.Ytgmofofokhlhnaa
open Go.RowKit
set_option linter.unusedVariables false
set_option linter.unusedSimpArgs false

theorem f6big_any {w : World} {v : Value} {bs : List Int} (h : SlB w v bs) : Calls Try.prog 12 #[v] w fun e w' => e = .returned (.bool (decide (4096 < bs.length))) ∧ w = w' := by
  have hl := h.len
  obtain ⟨a, c, rfl, _⟩ := h.form
  by_cases q : 4096 < bs.length
  · have q2 : (4096 : Int) < (bs.length : Int) := by omega
    have HR := Lib.hid (show true = decide (4096 < bs.length) from (decide_eq_true q).symm)
    clear q
    go_enter Try.func12, Try.ntmps12
    go_wp2
    go_ret
    exact ⟨ret_bool HR.out, rfl⟩
  · have q2 : ¬ (4096 : Int) < (bs.length : Int) := by omega
    have HR := Lib.hid (show false = decide (4096 < bs.length) from (decide_eq_false q).symm)
    clear q
    go_enter Try.func12, Try.ntmps12
    go_wp2
    go_ret
    exact ⟨ret_bool HR.out, rfl⟩
def Lens (s : Src) : Prop := s.H.length ≤ 3000000 ∧ s.P.length ≤ 3000000 ∧ s.G.length ≤ 3000000
theorem ownS_set2 {w1 : World} {B b : Nat} {h pp g : Value} {s : Src} (O : OwnS w1 B h pp g s) (hb : ∀ k, blks h pp g k → k ≠ b) (v0 v1 : Value) : OwnS ((w1.setCell ⟨b, 0, none⟩ v0).setCell ⟨b, 1, none⟩ v1) B h pp g s := by
  have st : ∀ {W : World} (j : Nat) (v : Value), OwnS W B h pp g s → OwnS (W.setCell ⟨b, j, none⟩ v) B h pp g s := fun j v o => o.only2 (only_set _ _ _) (fun k hk e => hb k hk (by simpa using e))
  exact st 1 _ (st 0 _ O)
def FlO (w : World) (e : Ending) (w' : World) : Prop := ∃ h pp g s, e = .returned (.agg #[h, pp, g]) ∧ OwnS w' w.heap.size h pp g s ∧ Bl w w'
def NeO (w : World) (e : Ending) (w' : World) : Prop := ∃ h pp g s, ∃ m : Int, e = .returned (.tuple #[.agg #[h, pp, g], .int .i64 m]) ∧ OwnS w' w.heap.size h pp g s ∧ Bl w w'
def CfO (w : World) (e : Ending) (w' : World) : Prop := ∃ h pp g s, ∃ n d m : Int, e = .returned (.tuple #[.agg #[h, pp, g], .agg #[.int .i64 n, .int .i64 d], .int .i64 m]) ∧ OwnS w' w.heap.size h pp g s ∧ Bl w w'
theorem ownS_set3 {w1 : World} {B b : Nat} {h pp g : Value} {s : Src} (O : OwnS w1 B h pp g s) (hb : ∀ k, blks h pp g k → k ≠ b) (v0 v1 v2 : Value) : OwnS (((w1.setCell ⟨b, 0, none⟩ v0).setCell ⟨b, 1, none⟩ v1).setCell ⟨b, 2, none⟩ v2) B h pp g s := by
  have st : ∀ {W : World} (j : Nat) (v : Value), OwnS W B h pp g s → OwnS (W.setCell ⟨b, j, none⟩ v) B h pp g s := fun j v o => o.only2 (only_set _ _ _) (fun k hk e => hb k hk (by simpa using e))
  exact st 2 _ (st 1 _ (st 0 _ O))
set_option maxRecDepth 100000 in
set_option maxHeartbeats 6400000 in
theorem dfloor_any {w : World} {v : Value} {bs : List Int} (h : SlB w v bs) (hl : bs.length ≤ 4096) :
    Calls Try.prog 68 #[v] w (FlO w) := by
  obtain ⟨av, cv, rfl, hcv⟩ := h.form
  have HS := Lib.hid h
  clear h
  go_enter Try.func68, Try.ntmps68
  go_wp2_with fail
  have xR : Bx (w.alloc (.cells #[.slice none 0 0, .slice none 0 0, .slice none 0 0] 26)) w.heap.size #[.slice none 0 0, .slice none 0 0, .slice none 0 0] := Bx.new (b := w.heap.size) _ _ _ rfl
  have hA : Bl w (w.alloc (.cells #[.slice none 0 0, .slice none 0 0, .slice none 0 0] 26)) := bl_alloc (bl_refl w) _
  have hsz : w.heap.size + 1 ≤ (w.alloc (.cells #[.slice none 0 0, .slice none 0 0, .slice none 0 0] 26)).heap.size := by simp
  generalize w.alloc (.cells #[.slice none 0 0, .slice none 0 0, .slice none 0 0] 26) = wa at *
  refine (dfrom_any (HS.out.below hA) (by omega)).mono ?_
  rintro e w1 ⟨p, rfl, hD, hb1⟩
  have x1 := xR.below hb1
  have hp := hD.out
  go_wp2_with fail
  refine (sbent15_any hD (by omega)).mono ?_
  rintro e w2 ⟨h, pp, g, s, rfl, hO, hL, hS2, hU2⟩
  obtain ⟨⟨b1, m1, k1, rfl⟩, ⟨b2, m2, k2, rfl⟩, ⟨b3, m3, k3, rfl⟩⟩ := hO.shape
  have x2 := x1.upd hU2 (by omega)
  obtain ⟨c2, f2, z2⟩ := x2.out
  have B2 := bl_of_upd (bl_call hA hb1) hU2 (by have := hA.size; omega)
  have hs1 := hb1.size
  have O2 := ownS_set3 (b := w.heap.size) (hO.mono (B' := w.heap.size) (by omega)) (fun k hk => by have := (hO.blk k hk).1; omega) (.slice b1 m1 k1) (.slice b2 m2 k2) (.slice b3 m3 k3)
  go_wp2
  refine bodyPost_ret (v := .agg #[.slice b1 m1 k1, .slice b2 m2 k2, .slice b3 m3 k3]) (by simp only [results, Try.results68]; go_simp) rfl ?_
  exact ⟨_, _, _, _, rfl, O2, bl_set (bl_set (bl_set B2 (by simp) _) (by simp) _) (by simp) _⟩
set_option maxRecDepth 100000 in
set_option maxHeartbeats 6400000 in
theorem dnear_any {w : World} {v : Value} {bs : List Int} (h : SlB w v bs) (hl : bs.length ≤ 4096) :
    Calls Try.prog 71 #[v] w (NeO w) := by
  obtain ⟨av, cv, rfl, hcv⟩ := h.form
  have HS := Lib.hid h
  clear h
  go_enter Try.func71, Try.ntmps71
  go_wp2_with fail
  have xR : Bx (w.alloc (.cells #[.slice none 0 0, .slice none 0 0, .slice none 0 0] 26)) w.heap.size #[.slice none 0 0, .slice none 0 0, .slice none 0 0] := Bx.new (b := w.heap.size) _ _ _ rfl
  have hA : Bl w (w.alloc (.cells #[.slice none 0 0, .slice none 0 0, .slice none 0 0] 26)) := bl_alloc (bl_refl w) _
  have hsz : w.heap.size + 1 ≤ (w.alloc (.cells #[.slice none 0 0, .slice none 0 0, .slice none 0 0] 26)).heap.size := by simp
  generalize w.alloc (.cells #[.slice none 0 0, .slice none 0 0, .slice none 0 0] 26) = wa at *
  refine (dfrom_any (HS.out.below hA) (by omega)).mono ?_
  rintro e w1 ⟨p, rfl, hD, hb1⟩
  have x1 := xR.below hb1
  have hp := hD.out
  go_wp2_with fail
  refine (sbent15_any hD (by omega)).mono ?_
  rintro e w2 ⟨h, pp, g, s, rfl, hO, hL, hS2, hU2⟩
  obtain ⟨⟨b1, m1, k1, rfl⟩, ⟨b2, m2, k2, rfl⟩, ⟨b3, m3, k3, rfl⟩⟩ := hO.shape
  have x2 := x1.upd hU2 (by omega)
  have B2 := bl_of_upd (bl_call hA hb1) hU2 (by have := hA.size; omega)
  have hs1 := hb1.size
  have hs2 := hU2.size
  go_wp2_with fail
  have xR3 := x2.alloc (.cells #[.slice b1 m1 k1, .slice b2 m2 k2, .slice b3 m3 k3] 26)
  have xX3 : Bx (w2.alloc (.cells #[.slice b1 m1 k1, .slice b2 m2 k2, .slice b3 m3 k3] 26)) w2.heap.size #[.slice b1 m1 k1, .slice b2 m2 k2, .slice b3 m3 k3] := Bx.new (b := w2.heap.size) _ _ _ rfl
  have S3 := hS2.below (bl_alloc (bl_refl w2) (.cells #[.slice b1 m1 k1, .slice b2 m2 k2, .slice b3 m3 k3] 26))
  have O3 := (hO.mono (B' := w.heap.size + 1) (by omega)).below (bl_alloc (bl_refl w2) (.cells #[.slice b1 m1 k1, .slice b2 m2 k2, .slice b3 m3 k3] 26))
  have B3 : Bl w (w2.alloc (.cells #[.slice b1 m1 k1, .slice b2 m2 k2, .slice b3 m3 k3] 26)) := bl_alloc B2 _
  have z3 : w2.heap.size + 1 ≤ (w2.alloc (.cells #[.slice b1 m1 k1, .slice b2 m2 k2, .slice b3 m3 k3] 26)).heap.size := by simp
  generalize w2.alloc (.cells #[.slice b1 m1 k1, .slice b2 m2 k2, .slice b3 m3 k3] 26) = w3 at *
  obtain ⟨cR, fR, zR⟩ := xR3.out
  obtain ⟨cX, fX, zX⟩ := xX3.out
  go_region_with
    ((go_at_call 77; go_must (refine (smost_any (S3.below (bl_drew (bl_refl _))) (by omega)).mono ?_; rintro e w4 ⟨m, rfl, hS4, hU4⟩; have xR4 := xR3.drew.upd hU4 (by omega); have xX4 := xX3.drew.upd hU4 (by omega); have O4 := O3.drew.only2 (only_upd hU4) (fun k hk e => by have := (hO.blk k hk).2; have := (hO.blk k hk).1; omega); have B4 := bl_of_upd (bl_drew B3) hU4 (by have := hA.size; omega); clear cR fR zR cX fX zX; obtain ⟨cR, fR, zR⟩ := xR4.out; obtain ⟨cX, fX, zX⟩ := xX4.out)))
  all_goals
    have O5 := ownS_set3 (b := w.heap.size) (O4.mono (B' := w.heap.size) (by omega)) (fun k hk => by have := (O3.blk k hk).1; omega) (.slice b1 m1 k1) (.slice b2 m2 k2) (.slice b3 m3 k3)
    go_wp2
    refine bodyPost_ret (v := .tuple #[.agg #[.slice b1 m1 k1, .slice b2 m2 k2, .slice b3 m3 k3], .int .i64 m]) (by simp only [results, Try.results71]; go_simp) rfl ?_
    exact ⟨_, _, _, _, _, rfl, O5, bl_set (bl_set (bl_set B4 (by simp) _) (by simp) _) (by simp) _⟩

end Go.Proofs.Ytgmofofokhlhnaa
