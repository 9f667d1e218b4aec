/- Draws of fractions that are seldom not plain, and of numbers of terms. Each theorem names its conditions. -/
import Derived.Test.YtgkelemfbmmgnaaSdA
namespace Go.Proofs.Ytgkelemfbmmgnaa
open Go.RowKit
set_option linter.unusedVariables false
set_option linter.unusedSimpArgs false

def FrB (w0 w : World) (p N : Nat) (e : Ending) (w' : World) : Prop := ∃ n d : Int, e = .returned (.agg #[.int .i64 n, .int .i64 d]) ∧ SrcD w0 w' p (N + 60) ∧ Upd w w' p
def MoB (w0 w : World) (p N : Nat) (e : Ending) (w' : World) : Prop := ∃ n : Int, e = .returned (.int .i64 n) ∧ SrcD w0 w' p (N + 60) ∧ Upd w w' p
theorem frb_set {w0 w w1 : World} {p N M : Nat} {n d : Int} (S : SrcD w0 w1 p M) (U : Upd w w1 p) (hp : p < w.heap.size) (hM : M ≤ N + 60) :
    FrB w0 w p N (.returned (.agg #[.int .i64 n, .int .i64 d])) ((w1.setCell ⟨w.heap.size, 0, none⟩ (.int .i64 n)).setCell ⟨w.heap.size, 1, none⟩ (.int .i64 d)) := by
  have h0 : w0.heap.size ≤ w.heap.size := by have := S.out.1; omega
  exact ⟨n, d, rfl, ((S.far (q := ⟨w.heap.size, 0, none⟩) (by simpa using h0) (by simp; omega) _).far (q := ⟨w.heap.size, 1, none⟩) (by simpa using h0) (by simp; omega) _).more hM, upd_far (upd_far U (q := ⟨w.heap.size, 0, none⟩) (by simp) _) (q := ⟨w.heap.size, 1, none⟩) (by simp) _⟩
set_option maxRecDepth 100000 in
set_option maxHeartbeats 6400000 in
theorem smost_any {w0 w : World} {p N : Nat} (h : SrcD w0 w p N) (hN : N ≤ 500000000) :
    Calls Try.prog 38 #[.pointer (some ⟨p, 0, none⟩)] w (MoB w0 w p N) := by
  have hp := h.out.2.1
  go_enter Try.func38, Try.ntmps38
  go_wp2_with fail
  refine (done_any h (by omega) (by omega)).mono ?_
  rintro e w1 ⟨b, rfl, hS1, hU1⟩
  have hp1 := hS1.out.2.1
  cases b with
  | true =>
    go_wp2_with fail
    refine (samong_any (b := w1.heap.size) (cs := #[.int .i64 (-1), .int .i64 0, .int .i64 1, .int .i64 1000, .int .i64 1001]) (hS1.below (bl_alloc (bl_refl _) (.cells #[.int .i64 (-1), .int .i64 0, .int .i64 1, .int .i64 1000, .int .i64 1001] 2))) (by omega) (Bx.new (b := w1.heap.size) _ _ _ rfl) (by omega) (by omega) (by omega) (fun i hi => by rcases (show i = 0 ∨ i = 1 ∨ i = 2 ∨ i = 3 ∨ i = 4 by omega) with rfl | rfl | rfl | rfl | rfl <;> exact ⟨_, rfl, by unfold R64; omega⟩)).mono ?_
    rintro e w2 ⟨x, rfl, hx, hS2, hU2⟩
    go_wp2
    go_ret
    exact ⟨x, rfl, hS2.more (by omega), upd_trans hU1 (upd_trans (upd_bl (upd_refl _ _) (bl_alloc (bl_refl _) (.cells #[.int .i64 (-1), .int .i64 0, .int .i64 1, .int .i64 1000, .int .i64 1001] 2))) hU2)⟩
  | false =>
    go_wp2_with fail
    refine (dpick_any hS1 (by omega) (by omega)).mono ?_
    rintro e w2 ⟨r, rfl, r0, r1, hS2, hU2⟩
    go_wp2
    go_ret
    exact ⟨_, rfl, hS2.more (by omega), upd_trans hU1 hU2⟩
end Go.Proofs.Ytgkelemfbmmgnaa
