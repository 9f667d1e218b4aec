/- Draws of surds and of sources: what is drawn may be anything that the callers ask. Each theorem names its conditions. -/
import Derived.Test.YtndblondleclpaaGreatDoorDraw
import Derived.Test.YtndblondleclpaaGreatDoorSurdX
import Derived.Test.YtndblondleclpaaGreatDoorOnly
namespace Go.Proofs.YtndblondleclpaaGreatDoor
open Go.RowKit
set_option linter.unusedVariables false
set_option linter.unusedSimpArgs false

theorem SrcD.only {w0 w w' : World} {p N : Nat} {S : Nat → Prop} (h : SrcD w0 w p N) (ho : Only w w' S) (hp : ¬ S p) (hs : ∀ k, S k → w0.heap.size ≤ k) : SrcD w0 w' p N := by
  obtain ⟨a, bs, c, k, s, hS, hl, hp0, hB, hk, xS⟩ := h
  exact ⟨a, bs, c, k, s, hS, hl, hp0, Below.only hB ho hB.size hs, hk, xS.only ho hp⟩
theorem upd_only {w w1 w2 : World} {p : Nat} {S : Nat → Prop} (h : Upd w w1 p) (ho : Only w1 w2 S) (hs : ∀ k, S k → w.heap.size ≤ k) : Upd w w2 p :=
  ⟨ho.os.trans h.os, ho.tape.trans h.tape, ho.output.trans h.output, Nat.le_trans h.size ho.size, fun k hk hn => (ho.block k (Nat.lt_of_lt_of_le hk h.size) (fun e => by have := hs k e; omega)).trans (h.block k hk hn)⟩
theorem only_set (w : World) (q : Addr) (v : Value) : Only w (w.setCell q v) (fun k => k = q.block) := ⟨rfl, rfl, rfl, by simp, fun k hk hn => Below.heap_setCell w q v k hn⟩
theorem only_upd {w w' : World} {p : Nat} (h : Upd w w' p) : Only w w' (fun k => k = p) := ⟨h.os, h.tape, h.output, h.size, fun k hk hn => h.block k hk (fun e => hn (by injection e))⟩
set_option maxRecDepth 100000 in
set_option maxHeartbeats 6400000 in
theorem samong_any {w0 w : World} {p N b n : Nat} {cs : Array Value} (h : SrcD w0 w p N) (hN : N ≤ 900000000) (hx : Bx w b cs) (hb : b ≠ p) (h0 : 0 < n) (hn : n ≤ 1000000) (hc : ∀ i < n, ∃ x, cs[i]? = some (.int .i64 x) ∧ R64 x) :
    Calls Tryz.prog 76 #[.pointer (some ⟨p, 0, none⟩), .slice (some ⟨b, 0, none⟩) n n] w fun e w' => ∃ x : Int, e = .returned (.int .i64 x) ∧ R64 x ∧ SrcD w0 w' p (N + 2) ∧ Upd w w' p := by
  go_enter Tryz.func76, Tryz.ntmps76
  go_wp2_with fail
  refine (dpick_any h hN (by omega)).mono ?_
  rintro e w1 ⟨r, rfl, r0, r1, hS1, hU1⟩
  have x1 := hx.upd hU1 hb
  obtain ⟨k, rfl⟩ := Int.eq_ofNat_of_zero_le r0
  have hk : k < n := by omega
  obtain ⟨x, hcx, hr⟩ := hc k hk
  have c1 : w1.cell? ⟨b, 0 + k, none⟩ = some (.int .i64 x) := by rw [Nat.zero_add, x1.out.1, hcx]
  have c2 : w1.cell? ⟨b, k, none⟩ = some (.int .i64 x) := by rw [x1.out.1, hcx]
  clear hcx hc
  go_wp2
  go_ret
  exact ⟨x, rfl, hr, hS1, hU1⟩

def IntD (w0 w : World) (p N M : Nat) (lo hi : Int) (e : Ending) (w' : World) : Prop := ∃ x : Int, e = .returned (.int .i64 x) ∧ (lo ≤ x ∧ x ≤ hi) ∧ SrcD w0 w' p (N + M) ∧ Upd w w' p
set_option maxRecDepth 100000 in
set_option maxHeartbeats 6400000 in
theorem sdrawD_any {w0 w : World} {p N : Nat} (h : SrcD w0 w p N) (hN : N ≤ 800000000) :
    Calls Tryz.prog 152 #[.pointer (some ⟨p, 0, none⟩)] w (IntD w0 w p N 6 0 1000) := by
  go_enter Tryz.func152, Tryz.ntmps152
  go_wp2_with fail
  refine (dpick_any h (by omega) (by omega)).mono ?_
  rintro e w1 ⟨r, rfl, r0, r1, hS1, hU1⟩
  go_wp2_with fail
  refine (done_any hS1 (by omega) (by omega)).mono ?_
  rintro e w2 ⟨b, rfl, hS2, hU2⟩
  have u2 := upd_trans hU1 hU2
  cases b with
  | true =>
    go_wp2_with fail
    refine (dpick_any hS2 (by omega) (by omega)).mono ?_
    rintro e w3 ⟨q, rfl, q0, q1, hS3, hU3⟩
    have u3 := upd_trans u2 hU3
    go_wp2_with fail
    refine (ssqr_any _ _ (by omega) (by omega)).mono ?_
    rintro e w4 ⟨rfl, hw4⟩
    subst hw4
    cases hq : sqrZ (2 + q) with
    | true =>
      go_wp2
      go_ret
      exact ⟨_, rfl, by omega, hS3.more (by omega), u3⟩
    | false =>
      go_wp2
      go_ret
      exact ⟨_, rfl, by omega, hS3.more (by omega), u3⟩
  | false =>
    go_wp2_with fail
    refine (ssqr_any _ _ (by omega) (by omega)).mono ?_
    rintro e w4 ⟨rfl, hw4⟩
    subst hw4
    cases hq : sqrZ (2 + r) with
    | true =>
      go_wp2
      go_ret
      exact ⟨_, rfl, by omega, hS2.more (by omega), u2⟩
    | false =>
      go_wp2
      go_ret
      exact ⟨_, rfl, by omega, hS2.more (by omega), u2⟩

def SudD (w0 w : World) (p N M : Nat) (e : Ending) (w' : World) : Prop := ∃ x y z : Int, e = .returned (.agg #[.int .i64 x, .int .i64 y, .int .i64 z]) ∧ SrcD w0 w' p (N + M) ∧ Upd w w' p
set_option maxRecDepth 100000 in
set_option maxHeartbeats 6400000 in
theorem sdraw7_any {w0 w : World} {p N : Nat} (h : SrcD w0 w p N) (hN : N ≤ 700000000) :
    Calls Tryz.prog 116 #[.pointer (some ⟨p, 0, none⟩)] w (SudD w0 w p N 60) := by
  have hp := h.out
  go_enter Tryz.func116, Tryz.ntmps116
  go_wp2_with fail
  have xR : Bx (w.alloc (.cells #[.int .i64 0, .int .i64 0, .int .i64 0] 143)) w.heap.size #[.int .i64 0, .int .i64 0, .int .i64 0] := Bx.new (b := w.heap.size) _ _ _ rfl
  have hA := h.below (bl_alloc (bl_refl w) (.cells #[.int .i64 0, .int .i64 0, .int .i64 0] 143))
  have uA : Upd w (w.alloc (.cells #[.int .i64 0, .int .i64 0, .int .i64 0] 143)) p := upd_bl (upd_refl _ _) (bl_alloc (bl_refl w) _)
  generalize w.alloc (.cells #[.int .i64 0, .int .i64 0, .int .i64 0] 143) = wa at *
  refine (sdrawD_any hA (by omega)).mono ?_
  rintro e w1 ⟨d, rfl, hd, hS1, hU1⟩
  have x1 := xR.upd hU1 (by omega)
  have u1 := upd_trans uA hU1
  clear hA xR uA
  go_wp2_with fail
  refine (dpick_any hS1 (by omega) (by omega)).mono ?_
  rintro e w2 ⟨r, rfl, r0, r1, hS2, hU2⟩
  have x2 := x1.upd hU2 (by omega)
  have u2 := upd_trans u1 hU2
  obtain ⟨q, hq⟩ : ∃ q, q = r - 20 := ⟨_, rfl⟩
  have hwq : IntKind.i64.wrap (r - 20) = q := by rw [IntKind.wrap_i64]; omega
  have hqb : -20 ≤ q ∧ q ≤ 20 := by omega
  have hqq := mulQ (by omega) hqb hqb
  clear hq r0 r1 hS1 hU1 x1 u1
  go_wp2_with fail
  refine (size_any _ _ (by omega)).mono ?_
  rintro e w3 ⟨rfl, hw3⟩
  subst hw3
  obtain ⟨n, hn⟩ : ∃ n, n = ab (d - q * q) := ⟨_, rfl⟩
  rw [← hn]
  clear hn
  go_wp2_with fail
  refine (dpick_any hS2 (by omega) (by omega)).mono ?_
  rintro e w3 ⟨c, rfl, c0, c1, hS3, hU3⟩
  have x3 := x2.upd hU3 (by omega)
  have u3 := upd_trans u2 hU3
  clear hS2 hU2 x2 u2
  go_wp2_with fail
  go_loopw [6, 7, 8] (fun s6 s7 _ wr => ∃ (a c : Int), s6 = .int .i64 a ∧ s7 = .int .i64 c ∧ (-100 ≤ a ∧ a ≤ 100) ∧ (0 ≤ c ∧ c ≤ 8) ∧ SrcD w0 wr p (N + 40 - 2 * c.toNat) ∧ Upd w wr p ∧ Bx wr w.heap.size #[.int .i64 0, .int .i64 0, .int .i64 0]) (fun _ s7 _ _ => (intOf s7).toNat)
  case atStart => exact ⟨1, c, rfl, rfl, by omega, by omega, hS3.more (by omega), u3, x3⟩
  case round =>
    obtain ⟨a, c, rfl, rfl, ha, hc, hSr, hUr, xr⟩ := hrel
    by_cases hc0 : 0 < c
    · go_wp2_with fail
      refine (dpick_any hSr (by omega) (by omega)).mono ?_
      rintro e w4 ⟨t, rfl, t0, t1, hS4, hU4⟩
      have x4 := xr.upd hU4 (by omega)
      have u4 := upd_trans hUr hU4
      have ht0 : ¬ 1 + t = 0 := by omega
      by_cases hm : n.tmod (1 + t) = 0
      · have hm2 : (n.tmod (1 + t) == 0) = true := by simp [hm]
        have hwm : IntKind.i64.wrap (n.tmod (1 + t)) = n.tmod (1 + t) := IntWalk.i64_in _ (by rw [hm]; omega)
        go_wp2
        go_roundw
        case rel => exact ⟨1 + t, c - 1, by go_num, by go_num, by omega, by omega, hS4.more (by omega), u4, x4⟩
        case measure => simp only [intOf]; omega
      · have hmb := tmod_bd n ht0 (M := 1000) (by omega)
        have hwm : IntKind.i64.wrap (n.tmod (1 + t)) = n.tmod (1 + t) := IntWalk.i64_in _ (by omega)
        go_wp2
        go_roundw
        case rel => exact ⟨a, c - 1, rfl, by go_num, by omega, by omega, hS4.more (by omega), u4, x4⟩
        case measure => simp only [intOf]; omega
    · go_wp2_with fail
      refine (done_any hSr (by omega) (by omega)).mono ?_
      rintro e w4 ⟨b, rfl, hS4, hU4⟩
      have x4 := xr.upd hU4 (by omega)
      have u4 := upd_trans hUr hU4
      obtain ⟨cR, fR, zR⟩ := x4.out
      cases b with
      | true =>
        obtain ⟨a2, ha2⟩ : ∃ z, z = -a := ⟨_, rfl⟩
        have hwa : IntKind.i64.wrap (-a) = a2 := by rw [IntKind.wrap_i64]; omega
        go_wp2
        refine bodyPost_ret (v := .agg #[.int .i64 q, .int .i64 d, .int .i64 a2]) (by simp only [results, Tryz.results116]; go_simp) rfl ?_
        exact ⟨_, _, _, rfl, ((((hS4.far (q := ⟨w.heap.size, 0, none⟩) (by have := hp.2.2.size; simpa using this) (by simp; omega) _).far (q := ⟨w.heap.size, 1, none⟩) (by have := hp.2.2.size; simpa using this) (by simp; omega) _).far (q := ⟨w.heap.size, 2, none⟩) (by have := hp.2.2.size; simpa using this) (by simp; omega) _).more (by omega)), upd_far (upd_far (upd_far u4 (q := ⟨w.heap.size, 0, none⟩) (by simp) _) (q := ⟨w.heap.size, 1, none⟩) (by simp) _) (q := ⟨w.heap.size, 2, none⟩) (by simp) _⟩
      | false =>
        go_wp2
        refine bodyPost_ret (v := .agg #[.int .i64 q, .int .i64 d, .int .i64 a]) (by simp only [results, Tryz.results116]; go_simp) rfl ?_
        exact ⟨_, _, _, rfl, ((((hS4.far (q := ⟨w.heap.size, 0, none⟩) (by have := hp.2.2.size; simpa using this) (by simp; omega) _).far (q := ⟨w.heap.size, 1, none⟩) (by have := hp.2.2.size; simpa using this) (by simp; omega) _).far (q := ⟨w.heap.size, 2, none⟩) (by have := hp.2.2.size; simpa using this) (by simp; omega) _).more (by omega)), upd_far (upd_far (upd_far u4 (q := ⟨w.heap.size, 0, none⟩) (by simp) _) (q := ⟨w.heap.size, 1, none⟩) (by simp) _) (q := ⟨w.heap.size, 2, none⟩) (by simp) _⟩

end Go.Proofs.YtndblondleclpaaGreatDoor
