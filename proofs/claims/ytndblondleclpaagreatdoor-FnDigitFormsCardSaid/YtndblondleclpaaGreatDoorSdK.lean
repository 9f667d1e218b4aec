/- Draws for the laws on sources. Each theorem names its conditions. -/
import Derived.Test.YtndblondleclpaaGreatDoorSdC
namespace Go.Proofs.YtndblondleclpaaGreatDoor
open Go.RowKit
set_option linter.unusedVariables false
set_option linter.unusedSimpArgs false

def LensK (s : Src) : Prop := s.H.length ≤ 4000 ∧ s.P.length ≤ 4000 ∧ s.G.length ≤ 4000
theorem f6big_anyK {w : World} {v : Value} {bs : List Int} (h : SlB w v bs) : Calls Tryz.prog 5 #[v] w fun e w' => e = .returned (.bool (decide (4096 < bs.length))) ∧ w = w' := by
  have hl := h.len
  obtain ⟨a, c, rfl, _⟩ := h.form
  by_cases q : 4096 < bs.length
  · have q2 : (4096 : Int) < (bs.length : Int) := by omega
    have HR := Lib.hid (show true = decide (4096 < bs.length) from (decide_eq_true q).symm)
    clear q
    go_enter Tryz.func5, Tryz.ntmps5
    go_wp2
    go_ret
    exact ⟨ret_bool HR.out, rfl⟩
  · have q2 : ¬ (4096 : Int) < (bs.length : Int) := by omega
    have HR := Lib.hid (show false = decide (4096 < bs.length) from (decide_eq_false q).symm)
    clear q
    go_enter Tryz.func5, Tryz.ntmps5
    go_wp2
    go_ret
    exact ⟨ret_bool HR.out, rfl⟩
theorem ownS_set3K {w1 : World} {B b : Nat} {h pp g : Value} {s : Src} (O : OwnS w1 B h pp g s) (hb : ∀ k, blks h pp g k → k ≠ b) (v0 v1 v2 : Value) : OwnS (((w1.setCell ⟨b, 0, none⟩ v0).setCell ⟨b, 1, none⟩ v1).setCell ⟨b, 2, none⟩ v2) B h pp g s := by
  have st : ∀ {W : World} (j : Nat) (v : Value), OwnS W B h pp g s → OwnS (W.setCell ⟨b, j, none⟩ v) B h pp g s := fun j v o => o.only2 (only_set _ _ _) (fun k hk e => hb k hk (by simpa using e))
  exact st 2 _ (st 1 _ (st 0 _ O))
/-- A source and a number, drawn. -/
def AtD (w0 w : World) (p N : Nat) (e : Ending) (w' : World) : Prop :=
  ∃ h pp g s, ∃ m : Int, e = .returned (.tuple #[.agg #[h, pp, g], .int .i64 m]) ∧ OwnS w' (w.heap.size + 1) h pp g s ∧ LensK s ∧ SrcD w0 w' p (N + 310) ∧ Upd w w' p
theorem atd_set {w0 w w1 : World} {p N M : Nat} {h pp g : Value} {s : Src} {m : Int} (S : SrcD w0 w1 p M) (U : Upd w w1 p) (O : OwnS w1 (w.heap.size + 1) h pp g s) (hp : p < w.heap.size) (hM : M ≤ N + 310) (L : LensK s) :
    AtD w0 w p N (.returned (.tuple #[.agg #[h, pp, g], .int .i64 m])) (((w1.setCell ⟨w.heap.size, 0, none⟩ h).setCell ⟨w.heap.size, 1, none⟩ pp).setCell ⟨w.heap.size, 2, none⟩ g) := by
  have h0 : w0.heap.size ≤ w.heap.size := by have := S.out.1; omega
  refine ⟨h, pp, g, s, m, rfl, ownS_set3K O (fun k hk => by have := (O.blk k hk).1; omega) _ _ _, L, ?_, upd_far (upd_far (upd_far U (q := ⟨w.heap.size, 0, none⟩) (by simp) _) (q := ⟨w.heap.size, 1, none⟩) (by simp) _) (q := ⟨w.heap.size, 2, none⟩) (by simp) _⟩
  exact (((S.far (q := ⟨w.heap.size, 0, none⟩) (by simpa using h0) (by simp; omega) _).far (q := ⟨w.heap.size, 1, none⟩) (by simpa using h0) (by simp; omega) _).far (q := ⟨w.heap.size, 2, none⟩) (by simpa using h0) (by simp; omega) _).more hM
def FlK (w : World) (e : Ending) (w' : World) : Prop := ∃ h pp g s, e = .returned (.agg #[h, pp, g]) ∧ OwnS w' w.heap.size h pp g s ∧ LensK s ∧ Bl w w'
def NeK (w : World) (e : Ending) (w' : World) : Prop := ∃ h pp g s, ∃ m : Int, e = .returned (.tuple #[.agg #[h, pp, g], .int .i64 m]) ∧ OwnS w' w.heap.size h pp g s ∧ LensK s ∧ Bl w w'
set_option maxRecDepth 100000 in
set_option maxHeartbeats 6400000 in
theorem sat15_any {w0 w : World} {p N : Nat} {M : Int} (h0 : SrcD w0 w p N) (hN : N ≤ 400000000) (hM : -9223372036854775808 ≤ M ∧ M ≤ 9223372036854775807) :
    Calls Tryz.prog 44 #[.pointer (some ⟨p, 0, none⟩), .int .i64 M] w (AtD w0 w p N) := by
  have hp := h0.out.2.1
  have hw0 : w0.heap.size ≤ w.heap.size := by have := h0.out; omega
  go_enter Tryz.func44, Tryz.ntmps44
  go_wp2_with fail
  have xR : Bx (w.alloc (.cells #[.slice none 0 0, .slice none 0 0, .slice none 0 0] 26)) w.heap.size #[.slice none 0 0, .slice none 0 0, .slice none 0 0] := Bx.new (b := w.heap.size) _ _ _ rfl
  have hA := h0.below (bl_alloc (bl_refl w) (.cells #[.slice none 0 0, .slice none 0 0, .slice none 0 0] 26))
  have uA : Upd w (w.alloc (.cells #[.slice none 0 0, .slice none 0 0, .slice none 0 0] 26)) p := upd_bl (upd_refl _ _) (bl_alloc (bl_refl w) _)
  have zA : w.heap.size + 1 ≤ (w.alloc (.cells #[.slice none 0 0, .slice none 0 0, .slice none 0 0] 26)).heap.size := by simp
  generalize w.alloc (.cells #[.slice none 0 0, .slice none 0 0, .slice none 0 0] 26) = wa at *
  refine (sbent15_any hA (by omega)).mono ?_
  rintro e w1 ⟨h, pp, g, s, rfl, hO, hL, hS1, hU1⟩
  obtain ⟨⟨b1, m1, k1, rfl⟩, ⟨b2, m2, k2, rfl⟩, ⟨b3, m3, k3, rfl⟩⟩ := hO.shape
  have D1 := dr_box hS1 (upd_trans uA hU1) (hO.mono (B' := w.heap.size + 1) (by omega)) (xR.upd hU1 (by omega)) hp
  clear hA xR uA zA hO hS1 hU1 h0
  go_wp2_with fail
  obtain ⟨bO, hbO⟩ : ∃ bO, bO = w1.heap.size := ⟨_, rfl⟩
  rw [← hbO] at D1 ⊢
  generalize w1.alloc (.cells #[.slice b1 m1 k1, .slice b2 m2 k2, .slice b3 m3 k3] 26) = w2 at *
  clear hbO
  refine (done_any D1.S (by omega) (by omega)).mono ?_
  rintro e w3 ⟨b, rfl, hS3, hU3⟩
  have D3 := D1.upd hS3 hU3
  clear D1 hS3 hU3
  obtain ⟨cO, fO, zO⟩ := D3.X.out
  obtain ⟨cR, fR, zR⟩ := D3.R.out
  cases b with
  | true =>
    go_wp2_with fail
    go_region_with ((go_simp; go_at_call 76; go_must (refine (samong_any (b := w3.heap.size) (cs := #[.int .i64 (-1), .int .i64 0, .int .i64 59, .int .i64 60, .int .i64 61, .int .i64 1000, .int .i64 1001]) ((D3.bl (bl_drew (bl_refl w3))).bl (bl_alloc (bl_refl _) (.cells #[.int .i64 (-1), .int .i64 0, .int .i64 59, .int .i64 60, .int .i64 61, .int .i64 1000, .int .i64 1001] 2))).S (by omega) (Bx.new (b := w3.heap.size) _ _ _ rfl) (by have := D3.R.out.2.2; have := D3.pw; omega) (by omega) (by omega) (fun i hi => by rcases (show i = 0 ∨ i = 1 ∨ i = 2 ∨ i = 3 ∨ i = 4 ∨ i = 5 ∨ i = 6 by omega) with rfl | rfl | rfl | rfl | rfl | rfl | rfl <;> exact ⟨_, rfl, by unfold R64; omega⟩)).mono ?_; rintro e w8 ⟨y, rfl, hy, hS8, hU8⟩; have D8 := ((D3.bl (bl_drew (bl_refl w3))).bl (bl_alloc (bl_refl _) (.cells #[.int .i64 (-1), .int .i64 0, .int .i64 59, .int .i64 60, .int .i64 61, .int .i64 1000, .int .i64 1001] 2))).upd hS8 hU8; clear cO fO zO cR fR zR; obtain ⟨cO, fO, zO⟩ := D8.X.out; obtain ⟨cR, fR, zR⟩ := D8.R.out)))
    all_goals
      go_wp2
      refine bodyPost_ret (v := .tuple #[.agg #[.slice b1 m1 k1, .slice b2 m2 k2, .slice b3 m3 k3], .int .i64 y]) (by simp only [results, Tryz.results44]; go_simp) rfl ?_
      exact atd_set D8.S D8.U D8.O hp (by omega) hL
  | false =>
    go_wp2_with fail
    go_region_with ((go_simp; go_at_call 71; go_must (refine (dpick_any (D3.bl (bl_drew (bl_refl w3))).S (by omega) hM).mono ?_; rintro e w8 ⟨y, rfl, _, _, hS8, hU8⟩; have D8 := (D3.bl (bl_drew (bl_refl w3))).upd hS8 hU8; clear cO fO zO cR fR zR; obtain ⟨cO, fO, zO⟩ := D8.X.out; obtain ⟨cR, fR, zR⟩ := D8.R.out)))
    all_goals
      go_wp2
      refine bodyPost_ret (v := .tuple #[.agg #[.slice b1 m1 k1, .slice b2 m2 k2, .slice b3 m3 k3], .int .i64 y]) (by simp only [results, Tryz.results44]; go_simp) rfl ?_
      exact atd_set D8.S D8.U D8.O hp (by omega) hL
set_option maxRecDepth 100000 in
set_option maxHeartbeats 6400000 in
theorem dterm_any {w : World} {v : Value} {bs : List Int} (h : SlB w v bs) (hl : bs.length ≤ 4096) :
    Calls Tryz.prog 6 #[v] w (NeK w) := by
  obtain ⟨av, cv, rfl, hcv⟩ := h.form
  have HS := Lib.hid h
  clear h
  go_enter Tryz.func6, Tryz.ntmps6
  go_wp2_with fail
  have xR : Bx (w.alloc (.cells #[.slice none 0 0, .slice none 0 0, .slice none 0 0] 26)) w.heap.size #[.slice none 0 0, .slice none 0 0, .slice none 0 0] := Bx.new (b := w.heap.size) _ _ _ rfl
  have hA : Bl w (w.alloc (.cells #[.slice none 0 0, .slice none 0 0, .slice none 0 0] 26)) := bl_alloc (bl_refl w) _
  have hsz : w.heap.size + 1 ≤ (w.alloc (.cells #[.slice none 0 0, .slice none 0 0, .slice none 0 0] 26)).heap.size := by simp
  generalize w.alloc (.cells #[.slice none 0 0, .slice none 0 0, .slice none 0 0] 26) = wa at *
  refine (dfrom_any (HS.out.below hA) (by omega)).mono ?_
  rintro e w1 ⟨p, rfl, hD, hb1⟩
  have x1 := xR.below hb1
  have hp := hD.out
  go_wp2_with fail
  refine (sat15_any hD (by omega) (by omega)).mono ?_
  rintro e w2 ⟨h, pp, g, s, m, rfl, hO, hL, hS2, hU2⟩
  obtain ⟨⟨b1, m1, k1, rfl⟩, ⟨b2, m2, k2, rfl⟩, ⟨b3, m3, k3, rfl⟩⟩ := hO.shape
  have x2 := x1.upd hU2 (by omega)
  obtain ⟨c2, f2, z2⟩ := x2.out
  have B2 := bl_of_upd (bl_call hA hb1) hU2 (by have := hA.size; omega)
  have hs1 := hb1.size
  have O2 := ownS_set3K (b := w.heap.size) (hO.mono (B' := w.heap.size) (by omega)) (fun k hk => by have := (hO.blk k hk).1; omega) (.slice b1 m1 k1) (.slice b2 m2 k2) (.slice b3 m3 k3)
  go_wp2
  refine bodyPost_ret (v := .tuple #[.agg #[.slice b1 m1 k1, .slice b2 m2 k2, .slice b3 m3 k3], .int .i64 m]) (by simp only [results, Tryz.results6]; go_simp) rfl ?_
  exact ⟨_, _, _, _, _, rfl, O2, hL, bl_set (bl_set (bl_set B2 (by simp) _) (by simp) _) (by simp) _⟩
set_option maxRecDepth 100000 in
set_option maxHeartbeats 6400000 in
theorem dfirst_any {w : World} {v : Value} {bs : List Int} (h : SlB w v bs) (hl : bs.length ≤ 4096) :
    Calls Tryz.prog 9 #[v] w (NeK w) := by
  obtain ⟨av, cv, rfl, hcv⟩ := h.form
  have HS := Lib.hid h
  clear h
  go_enter Tryz.func9, Tryz.ntmps9
  go_wp2_with fail
  have xR : Bx (w.alloc (.cells #[.slice none 0 0, .slice none 0 0, .slice none 0 0] 26)) w.heap.size #[.slice none 0 0, .slice none 0 0, .slice none 0 0] := Bx.new (b := w.heap.size) _ _ _ rfl
  have hA : Bl w (w.alloc (.cells #[.slice none 0 0, .slice none 0 0, .slice none 0 0] 26)) := bl_alloc (bl_refl w) _
  have hsz : w.heap.size + 1 ≤ (w.alloc (.cells #[.slice none 0 0, .slice none 0 0, .slice none 0 0] 26)).heap.size := by simp
  generalize w.alloc (.cells #[.slice none 0 0, .slice none 0 0, .slice none 0 0] 26) = wa at *
  refine (dfrom_any (HS.out.below hA) (by omega)).mono ?_
  rintro e w1 ⟨p, rfl, hD, hb1⟩
  have x1 := xR.below hb1
  have hp := hD.out
  go_wp2_with fail
  refine (sat15_any hD (by omega) (by omega)).mono ?_
  rintro e w2 ⟨h, pp, g, s, m, rfl, hO, hL, hS2, hU2⟩
  obtain ⟨⟨b1, m1, k1, rfl⟩, ⟨b2, m2, k2, rfl⟩, ⟨b3, m3, k3, rfl⟩⟩ := hO.shape
  have x2 := x1.upd hU2 (by omega)
  obtain ⟨c2, f2, z2⟩ := x2.out
  have B2 := bl_of_upd (bl_call hA hb1) hU2 (by have := hA.size; omega)
  have hs1 := hb1.size
  have O2 := ownS_set3K (b := w.heap.size) (hO.mono (B' := w.heap.size) (by omega)) (fun k hk => by have := (hO.blk k hk).1; omega) (.slice b1 m1 k1) (.slice b2 m2 k2) (.slice b3 m3 k3)
  go_wp2
  refine bodyPost_ret (v := .tuple #[.agg #[.slice b1 m1 k1, .slice b2 m2 k2, .slice b3 m3 k3], .int .i64 m]) (by simp only [results, Tryz.results9]; go_simp) rfl ?_
  exact ⟨_, _, _, _, _, rfl, O2, hL, bl_set (bl_set (bl_set B2 (by simp) _) (by simp) _) (by simp) _⟩
set_option maxRecDepth 100000 in
set_option maxHeartbeats 6400000 in
theorem dskip_any {w : World} {v : Value} {bs : List Int} (h : SlB w v bs) (hl : bs.length ≤ 4096) :
    Calls Tryz.prog 12 #[v] w (NeK w) := by
  obtain ⟨av, cv, rfl, hcv⟩ := h.form
  have HS := Lib.hid h
  clear h
  go_enter Tryz.func12, Tryz.ntmps12
  go_wp2_with fail
  have xR : Bx (w.alloc (.cells #[.slice none 0 0, .slice none 0 0, .slice none 0 0] 26)) w.heap.size #[.slice none 0 0, .slice none 0 0, .slice none 0 0] := Bx.new (b := w.heap.size) _ _ _ rfl
  have hA : Bl w (w.alloc (.cells #[.slice none 0 0, .slice none 0 0, .slice none 0 0] 26)) := bl_alloc (bl_refl w) _
  have hsz : w.heap.size + 1 ≤ (w.alloc (.cells #[.slice none 0 0, .slice none 0 0, .slice none 0 0] 26)).heap.size := by simp
  generalize w.alloc (.cells #[.slice none 0 0, .slice none 0 0, .slice none 0 0] 26) = wa at *
  refine (dfrom_any (HS.out.below hA) (by omega)).mono ?_
  rintro e w1 ⟨p, rfl, hD, hb1⟩
  have x1 := xR.below hb1
  have hp := hD.out
  go_wp2_with fail
  refine (sat15_any hD (by omega) (by omega)).mono ?_
  rintro e w2 ⟨h, pp, g, s, m, rfl, hO, hL, hS2, hU2⟩
  obtain ⟨⟨b1, m1, k1, rfl⟩, ⟨b2, m2, k2, rfl⟩, ⟨b3, m3, k3, rfl⟩⟩ := hO.shape
  have x2 := x1.upd hU2 (by omega)
  obtain ⟨c2, f2, z2⟩ := x2.out
  have B2 := bl_of_upd (bl_call hA hb1) hU2 (by have := hA.size; omega)
  have hs1 := hb1.size
  have O2 := ownS_set3K (b := w.heap.size) (hO.mono (B' := w.heap.size) (by omega)) (fun k hk => by have := (hO.blk k hk).1; omega) (.slice b1 m1 k1) (.slice b2 m2 k2) (.slice b3 m3 k3)
  go_wp2
  refine bodyPost_ret (v := .tuple #[.agg #[.slice b1 m1 k1, .slice b2 m2 k2, .slice b3 m3 k3], .int .i64 m]) (by simp only [results, Tryz.results12]; go_simp) rfl ?_
  exact ⟨_, _, _, _, _, rfl, O2, hL, bl_set (bl_set (bl_set B2 (by simp) _) (by simp) _) (by simp) _⟩
set_option maxRecDepth 100000 in
set_option maxHeartbeats 6400000 in
theorem dtext_any {w : World} {v : Value} {bs : List Int} (h : SlB w v bs) (hl : bs.length ≤ 4096) :
    Calls Tryz.prog 15 #[v] w (FlK w) := by
  obtain ⟨av, cv, rfl, hcv⟩ := h.form
  have HS := Lib.hid h
  clear h
  go_enter Tryz.func15, Tryz.ntmps15
  go_wp2_with fail
  have xR : Bx (w.alloc (.cells #[.slice none 0 0, .slice none 0 0, .slice none 0 0] 26)) w.heap.size #[.slice none 0 0, .slice none 0 0, .slice none 0 0] := Bx.new (b := w.heap.size) _ _ _ rfl
  have hA : Bl w (w.alloc (.cells #[.slice none 0 0, .slice none 0 0, .slice none 0 0] 26)) := bl_alloc (bl_refl w) _
  have hsz : w.heap.size + 1 ≤ (w.alloc (.cells #[.slice none 0 0, .slice none 0 0, .slice none 0 0] 26)).heap.size := by simp
  generalize w.alloc (.cells #[.slice none 0 0, .slice none 0 0, .slice none 0 0] 26) = wa at *
  refine (dfrom_any (HS.out.below hA) (by omega)).mono ?_
  rintro e w1 ⟨p, rfl, hD, hb1⟩
  have x1 := xR.below hb1
  have hp := hD.out
  go_wp2_with fail
  refine (sbent15_any hD (by omega)).mono ?_
  rintro e w2 ⟨h, pp, g, s, rfl, hO, hL, hS2, hU2⟩
  obtain ⟨⟨b1, m1, k1, rfl⟩, ⟨b2, m2, k2, rfl⟩, ⟨b3, m3, k3, rfl⟩⟩ := hO.shape
  have x2 := x1.upd hU2 (by omega)
  obtain ⟨c2, f2, z2⟩ := x2.out
  have B2 := bl_of_upd (bl_call hA hb1) hU2 (by have := hA.size; omega)
  have hs1 := hb1.size
  have O2 := ownS_set3K (b := w.heap.size) (hO.mono (B' := w.heap.size) (by omega)) (fun k hk => by have := (hO.blk k hk).1; omega) (.slice b1 m1 k1) (.slice b2 m2 k2) (.slice b3 m3 k3)
  go_wp2
  refine bodyPost_ret (v := .agg #[.slice b1 m1 k1, .slice b2 m2 k2, .slice b3 m3 k3]) (by simp only [results, Tryz.results15]; go_simp) rfl ?_
  exact ⟨_, _, _, _, rfl, O2, hL, bl_set (bl_set (bl_set B2 (by simp) _) (by simp) _) (by simp) _⟩

end Go.Proofs.YtndblondleclpaaGreatDoor
