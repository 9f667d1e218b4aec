/- Best approximations: the reference runs. Each theorem names its conditions. -/
import Derived.Test.YtbonlompmnhmiaaBsSee
import Derived.Test.YtbonlompmnhmiaaMin
namespace Go.Proofs.Ytbonlompmnhmiaa
open Go.RowKit
set_option linter.unusedVariables false
set_option linter.unusedSimpArgs false


/-- The greater of two numbers. -/
theorem lmax_any {a b k : Int} (h : max a b = k) (w : World) : Calls Try.prog 107 #[.int .i64 a, .int .i64 b] w fun e w' => e = .returned (.int .i64 k) ∧ Bl w w' := by
  by_cases h1 : b < a
  · have H := Lib.hid (show a = k by omega)
    clear h
    go_enter Try.func107, Try.ntmps107
    go_wp2
    go_ret
    exact ⟨ret_int H.out, bl_refl _⟩
  · have H := Lib.hid (show b = k by omega)
    clear h
    go_enter Try.func107, Try.ntmps107
    go_wp2
    go_ret
    exact ⟨ret_int H.out, bl_refl _⟩
theorem soffK {n d m e x : Int} (h : offF n d m e = x) (w : World) (h1 : -4000000000000000000 ≤ n * e) (h2 : n * e ≤ 4000000000000000000) (h3 : -4000000000000000000 ≤ m * d) (h4 : m * d ≤ 4000000000000000000) :
    Calls Try.prog 97 #[.agg #[.int .i64 n, .int .i64 d], .agg #[.int .i64 m, .int .i64 e]] w fun r w' => r = .returned (.int .i64 x) ∧ Bl w w' := h ▸ soff_any n d m e w h1 h2 h3 h4
theorem plusK {a b c e k x y : Int} (hx : a + k * c = x) (hy : b + k * e = y) (w : World) (h1 : -4000000000000000000 ≤ k * c ∧ k * c ≤ 4000000000000000000) (h2 : -4000000000000000000 ≤ k * e ∧ k * e ≤ 4000000000000000000) (h3 : -4000000000000000000 ≤ a ∧ a ≤ 4000000000000000000) (h4 : -4000000000000000000 ≤ b ∧ b ≤ 4000000000000000000) :
    Calls Try.prog 99 #[.agg #[.int .i64 a, .int .i64 b], .agg #[.int .i64 c, .int .i64 e], .int .i64 k] w fun r w' => r = .returned (.agg #[.int .i64 x, .int .i64 y]) ∧ Bl w w' := hx ▸ hy ▸ plus_any a b c e k w h1 h2 h3 h4
def RunP (w : World) (p B : Nat) (n d : Int) (sec : Bool) (ov : Value) (Q x y : Int) (e : Ending) (w' : World) : Prop :=
  e = .returned (.agg #[.int .i64 x, .int .i64 y]) ∧ Upv w w' p ov ∧ ∃ (v1 : Value) (L1 : List (Int × Int)) (f1 : Bool), Bx w' p #[.int .i64 n, .int .i64 d, .bool sec, v1, .bool f1] ∧ OwnF w' B v1 L1 ∧ RowOf w ov v1 ∧ Gd sec n d Q L1 f1
theorem upv_far {w w' : World} {p : Nat} {v : Value} (h : Upv w w' p v) {q : Addr} (hq : w.heap.size ≤ q.block) (u : Value) : Upv w (w'.setCell q u) p v :=
  ⟨h.os, h.tape, h.output, by simpa using h.size, fun k hk hn => (Below.heap_setCell w' q u k (by omega)).trans (h.block k hk hn)⟩
theorem row_rowK {w w1 : World} {v v1 v2 : Value} (h : RowOf w v v1) (h2 : RowOf w1 v1 v2) (hs : w.heap.size ≤ w1.heap.size) : RowOf w v v2 := fun k hk => by
  rcases h2 k hk with q | q
  · exact h k q
  · exact .inr (Nat.le_trans hs q)
theorem ne_rowK {w1 : World} {v1 v2 : Value} {x : Nat} (h2 : RowOf w1 v1 v2) (h : v1.ownBlock ≠ some x) (hx : x < w1.heap.size) : v2.ownBlock ≠ some x := own_ne h2 h hx

set_option maxRecDepth 100000 in
set_option maxHeartbeats 12800000 in
theorem run_any {w : World} {p B : Nat} {n d s a b c e m A l : Int} {sec : Bool} {la : Option Addr} {lc : Nat} {L : List (Int × Int)} (hx : Bx w p #[.int .i64 n, .int .i64 d, .bool sec, .slice la L.length lc, .bool false]) (ho : OwnF w B (.slice la L.length lc) L) (hB : B ≤ w.heap.size) (hp : (Value.slice la L.length lc).ownBlock ≠ some p) (ok : okF n d = true) (hn : -1000000 ≤ n ∧ n ≤ 1000000) (hd : d ≤ 1000000) (hm : m ≤ 1000000) (hw : Way s n d a b c e) (hbe : b ≤ e) (hsum : b + e ≤ m) (hXY : s * (c * d - n * e) ≤ s * (n * b - a * d)) (hA : A = s * (n * b - a * d) / (s * (c * d - n * e))) (hl : l = min A ((m - b) / e)) (hG : Gd sec n d (b + e - 1) L false) :
    Calls Try.prog 101 #[.pointer (some ⟨p, 0, none⟩), .agg #[.int .i64 a, .int .i64 b], .agg #[.int .i64 c, .int .i64 e], .int .i64 m] w (RunP w p B n d sec (.slice la L.length lc) (b + (l + 1) * e - 1) (a + l * c) (b + l * e)) := by
  have hok := okF_bd ok
  have hpw := hx.out.2.2
  have HO := Lib.hid ho
  have HP := Lib.hid hp
  have HW := Lib.hid hw
  have HOK := Lib.hid ok
  have HGD := Lib.hid hG
  obtain ⟨X, hX⟩ : ∃ X, X = s * (n * b - a * d) := ⟨_, rfl⟩
  obtain ⟨Y, hY⟩ : ∃ Y, Y = s * (c * d - n * e) := ⟨_, rfl⟩
  have hb1 := hw.hb
  have he1 := hw.he
  have hy0 := hw.y0
  have sm1 := hw.small hok.2.2.2.2 (by omega) hn
  have sm2 := hw.by hok.2.2.2.2 (by omega) hn (by omega)
  rw [← hX, ← hY] at hXY hA
  rw [← hX] at sm1
  rw [← hY] at sm2 hy0
  have E1 : offF n d a b = X := by
    rw [offF, hX]
    rcases hw.s1 with rfl | rfl
    · rw [ab_pos (by omega)]; omega
    · rw [ab_neg (by omega)]; omega
  have E2 : offF n d c e = Y := by
    rw [offF, hY]
    rcases hw.s1 with rfl | rfl
    · rw [ab_neg (by omega)]; omega
    · rw [ab_pos (by omega)]; omega
  obtain ⟨t1, t2, t3, t4, t5, t6, t7⟩ := run_k0 hy0 hA (by omega) hXY
  obtain ⟨u1, u2, u3, u4, u5⟩ := run_last he1 t1 hsum hb1 hl
  obtain ⟨k0, hk0⟩ : ∃ k, k = max 1 (A / 2 - 1) := ⟨_, rfl⟩
  rw [← hk0] at t5 t6 t7
  have HG0 := Lib.hid (gd_eq hG (hw.start hok.2.2.2.2 hbe t6 (by rw [← hX, ← hY]; exact t5)))
  have HFL := Lib.hid (show l + 1 < k0 → tgt sec n d (b + (l + 1) * e - 1).toNat = tgt sec n d (b + k0 * e - 1).toNat from fun hlt => by
    have q1 := hw.start (sec := sec) hok.2.2.2.2 hbe t6 (by rw [← hX, ← hY]; exact t5)
    have q2 := hw.start (sec := sec) (k0 := l + 1) hok.2.2.2.2 hbe (by omega) (by
      rw [← hX, ← hY]
      rcases t5 with q | q
      · omega
      · right
        have := Int.mul_le_mul_of_nonneg_right (show 2 * (l + 1) + 2 ≤ 2 * k0 + 2 by omega) (show 0 ≤ Y by omega)
        omega)
    rw [q1, q2])
  have HST := Lib.hid (fun (k : Int) (h1 : 1 ≤ k) (h2 : k * Y ≤ X) => hw.step (sec := sec) hok.2.2.2.2 (by omega) h1 (by rw [← hX, ← hY]; exact h2))
  have HSM := Lib.hid (fun (k : Int) (h1 : 0 ≤ k) (h2 : k * Y ≤ X) => hw.sm2 (m := m) ok hn hd h1 (by rw [← hX, ← hY]; exact h2))
  have HKA := Lib.hid (show ∀ k : Int, k ≤ l → k * Y ≤ X from fun k h => Int.le_trans (Int.mul_le_mul_of_nonneg_right (show k ≤ A by omega) (by omega)) t2)
  have m1 : -4000000000000 ≤ n * b ∧ n * b ≤ 4000000000000 := by rw [Int.mul_comm]; exact prod_bdK (by omega) (by omega)
  have m2 : -4000000000000 ≤ a * d ∧ a * d ≤ 4000000000000 := by rw [Int.mul_comm]; exact prod_bdK (by omega) (by omega)
  have m3 : -4000000000000 ≤ n * e ∧ n * e ≤ 4000000000000 := by rw [Int.mul_comm]; exact prod_bdK (by omega) (by omega)
  have m4 : -4000000000000 ≤ c * d ∧ c * d ≤ 4000000000000 := by rw [Int.mul_comm]; exact prod_bdK (by omega) (by omega)
  have z1 : (Y == 0) = false := by simp; omega
  have z1a : Y ≠ 0 := by omega
  have z2 : (e == 0) = false := by simp; omega
  have HE1 := Lib.hid E1
  have HE2 := Lib.hid E2
  have HL := Lib.hid hl
  have HK0 := Lib.hid hk0
  have HX := Lib.hid hX
  have HY := Lib.hid hY
  have b1 : -4000000000000 ≤ b ∧ b ≤ 4000000000000 := by omega
  have W1 : IntKind.i64.wrap (X.tdiv Y) = A := by
    rw [Int.tdiv_eq_ediv_of_nonneg (by omega), ← hA]; exact IntWalk.i64_in _ (by omega)
  have HA := Lib.hid hA
  clear ok ho hp hw hG hX hY hA hl hk0 E1 E2 hok t2 t3 t5 u4
  go_enter Try.func101, Try.ntmps101
  go_wp2_with fail
  have Br1 : Bl w (((w.alloc (.cells #[.int .i64 (a), .int .i64 (b)] 26)).alloc (.cells #[.int .i64 (c), .int .i64 (e)] 26)).alloc (.cells #[.int .i64 (0), .int .i64 (0)] 26)) := (bl_alloc (bl_alloc (bl_alloc (bl_refl _) _) _) _)
  have xP_r1 : Bx (((w.alloc (.cells #[.int .i64 (a), .int .i64 (b)] 26)).alloc (.cells #[.int .i64 (c), .int .i64 (e)] 26)).alloc (.cells #[.int .i64 (0), .int .i64 (0)] 26)) (p) #[.int .i64 (n), .int .i64 (d), .bool sec, .slice la L.length lc, .bool false] := (((hx.alloc _).alloc _).alloc _)
  have xA_r1 : Bx (((w.alloc (.cells #[.int .i64 (a), .int .i64 (b)] 26)).alloc (.cells #[.int .i64 (c), .int .i64 (e)] 26)).alloc (.cells #[.int .i64 (0), .int .i64 (0)] 26)) (w.heap.size) #[.int .i64 (a), .int .i64 (b)] := (((Bx.new (b := w.heap.size) _ #[.int .i64 (a), .int .i64 (b)] 26 (by first | rfl | simp)).alloc _).alloc _)
  have xC_r1 : Bx (((w.alloc (.cells #[.int .i64 (a), .int .i64 (b)] 26)).alloc (.cells #[.int .i64 (c), .int .i64 (e)] 26)).alloc (.cells #[.int .i64 (0), .int .i64 (0)] 26)) (w.heap.size + 1) #[.int .i64 (c), .int .i64 (e)] := ((Bx.new (b := w.heap.size + 1) _ #[.int .i64 (c), .int .i64 (e)] 26 (by first | rfl | simp)).alloc _)
  have xR_r1 : Bx (((w.alloc (.cells #[.int .i64 (a), .int .i64 (b)] 26)).alloc (.cells #[.int .i64 (c), .int .i64 (e)] 26)).alloc (.cells #[.int .i64 (0), .int .i64 (0)] 26)) (w.heap.size + 1 + 1) #[.int .i64 (0), .int .i64 (0)] := (Bx.new (b := w.heap.size + 1 + 1) _ #[.int .i64 (0), .int .i64 (0)] 26 (by first | rfl | simp))
  have zzr1 : w.heap.size + 3 ≤ (((w.alloc (.cells #[.int .i64 (a), .int .i64 (b)] 26)).alloc (.cells #[.int .i64 (c), .int .i64 (e)] 26)).alloc (.cells #[.int .i64 (0), .int .i64 (0)] 26)).heap.size := (by simp)
  generalize (((w.alloc (.cells #[.int .i64 (a), .int .i64 (b)] 26)).alloc (.cells #[.int .i64 (c), .int .i64 (e)] 26)).alloc (.cells #[.int .i64 (0), .int .i64 (0)] 26)) = wr1 at *
  obtain ⟨cP_r1, fP_r1, zP_r1⟩ := xP_r1.out
  obtain ⟨cA_r1, fA_r1, zA_r1⟩ := xA_r1.out
  obtain ⟨cC_r1, fC_r1, zC_r1⟩ := xC_r1.out
  obtain ⟨cR_r1, fR_r1, zR_r1⟩ := xR_r1.out
  go_region_held3 (fun w' => w'.cell? ⟨p, 0, none⟩ = some (.int .i64 (n)) ∧ w'.cell? ⟨p, 1, none⟩ = some (.int .i64 (d)) ∧ w'.cell? ⟨p, 2, none⟩ = some (.bool sec) ∧ w'.cell? ⟨p, 3, none⟩ = some (.slice la L.length lc) ∧ w'.cell? ⟨p, 4, none⟩ = some (.bool false) ∧ w'.cell? ⟨w.heap.size, 0, none⟩ = some (.int .i64 (a)) ∧ w'.cell? ⟨w.heap.size, 1, none⟩ = some (.int .i64 (b)) ∧ w'.cell? ⟨w.heap.size + 1, 0, none⟩ = some (.int .i64 (c)) ∧ w'.cell? ⟨w.heap.size + 1, 1, none⟩ = some (.int .i64 (e))) (first | (simp [*]; done) | (go_simp; done) | go_keep)
    (first | (go_at_call_of 97 ((Value.agg #[Value.int IntKind.i64 a, Value.int IntKind.i64 b])); go_must (refine (soffK HE1.out _ (by omega) (by omega) (by omega) (by omega)).mono ?_; rintro e wr2 ⟨rfl, hbr2⟩; have Br2 : Bl w wr2 := bl_call (bl_drew Br1) hbr2; have xP_r2 : Bx wr2 (p) #[.int .i64 (n), .int .i64 (d), .bool sec, .slice la L.length lc, .bool false] := xP_r1.drew.below hbr2; have xA_r2 : Bx wr2 (w.heap.size) #[.int .i64 (a), .int .i64 (b)] := xA_r1.drew.below hbr2; have xC_r2 : Bx wr2 (w.heap.size + 1) #[.int .i64 (c), .int .i64 (e)] := xC_r1.drew.below hbr2; have xR_r2 : Bx wr2 (w.heap.size + 1 + 1) #[.int .i64 (0), .int .i64 (0)] := xR_r1.drew.below hbr2; clear cP_r1 fP_r1 zP_r1 cA_r1 fA_r1 zA_r1 cC_r1 fC_r1 zC_r1 cR_r1 fR_r1 zR_r1; obtain ⟨cP_r2, fP_r2, zP_r2⟩ := xP_r2.out; obtain ⟨cA_r2, fA_r2, zA_r2⟩ := xA_r2.out; obtain ⟨cC_r2, fC_r2, zC_r2⟩ := xC_r2.out; obtain ⟨cR_r2, fR_r2, zR_r2⟩ := xR_r2.out)) | (go_at_call_of 97 ((Value.agg #[Value.int IntKind.i64 c, Value.int IntKind.i64 e])); go_must (refine (soffK HE2.out _ (by omega) (by omega) (by omega) (by omega)).mono ?_; rintro e wr3 ⟨rfl, hbr3⟩; have Br3 : Bl w wr3 := bl_call Br2 hbr3; have xP_r3 : Bx wr3 (p) #[.int .i64 (n), .int .i64 (d), .bool sec, .slice la L.length lc, .bool false] := xP_r2.below hbr3; have xA_r3 : Bx wr3 (w.heap.size) #[.int .i64 (a), .int .i64 (b)] := xA_r2.below hbr3; have xC_r3 : Bx wr3 (w.heap.size + 1) #[.int .i64 (c), .int .i64 (e)] := xC_r2.below hbr3; have xR_r3 : Bx wr3 (w.heap.size + 1 + 1) #[.int .i64 (0), .int .i64 (0)] := xR_r2.below hbr3; clear cP_r2 fP_r2 zP_r2 cA_r2 fA_r2 zA_r2 cC_r2 fC_r2 zC_r2 cR_r2 fR_r2 zR_r2; obtain ⟨cP_r3, fP_r3, zP_r3⟩ := xP_r3.out; obtain ⟨cA_r3, fA_r3, zA_r3⟩ := xA_r3.out; obtain ⟨cC_r3, fC_r3, zC_r3⟩ := xC_r3.out; obtain ⟨cR_r3, fR_r3, zR_r3⟩ := xR_r3.out)))
  clear W1
  go_wp2_with fail
  refine (lmin_any (a := A) (b := (m - b) / e) (k := l) HL.out.symm _).mono ?_
  rintro e wr4 ⟨rfl, hbr4⟩
  have Br4 : Bl w wr4 := bl_call Br3 hbr4
  have xP_r4 : Bx wr4 (p) #[.int .i64 (n), .int .i64 (d), .bool sec, .slice la L.length lc, .bool false] := xP_r3.below hbr4
  have xA_r4 : Bx wr4 (w.heap.size) #[.int .i64 (a), .int .i64 (b)] := xA_r3.below hbr4
  have xC_r4 : Bx wr4 (w.heap.size + 1) #[.int .i64 (c), .int .i64 (e)] := xC_r3.below hbr4
  have xR_r4 : Bx wr4 (w.heap.size + 1 + 1) #[.int .i64 (0), .int .i64 (0)] := xR_r3.below hbr4
  clear cP_r3 fP_r3 zP_r3 cA_r3 fA_r3 zA_r3 cC_r3 fC_r3 zC_r3 cR_r3 fR_r3 zR_r3
  obtain ⟨cP_r4, fP_r4, zP_r4⟩ := xP_r4.out
  obtain ⟨cA_r4, fA_r4, zA_r4⟩ := xA_r4.out
  obtain ⟨cC_r4, fC_r4, zC_r4⟩ := xC_r4.out
  obtain ⟨cR_r4, fR_r4, zR_r4⟩ := xR_r4.out
  go_wp2_with fail
  refine (lmax_any (a := 1) (b := A / 2 - 1) (k := k0) HK0.out.symm _).mono ?_
  rintro e wr5 ⟨rfl, hbr5⟩
  have Br5 : Bl w wr5 := bl_call Br4 hbr5
  have xP_r5 : Bx wr5 (p) #[.int .i64 (n), .int .i64 (d), .bool sec, .slice la L.length lc, .bool false] := xP_r4.below hbr5
  have xA_r5 : Bx wr5 (w.heap.size) #[.int .i64 (a), .int .i64 (b)] := xA_r4.below hbr5
  have xC_r5 : Bx wr5 (w.heap.size + 1) #[.int .i64 (c), .int .i64 (e)] := xC_r4.below hbr5
  have xR_r5 : Bx wr5 (w.heap.size + 1 + 1) #[.int .i64 (0), .int .i64 (0)] := xR_r4.below hbr5
  clear cP_r4 fP_r4 zP_r4 cA_r4 fA_r4 zA_r4 cC_r4 fC_r4 zC_r4 cR_r4 fR_r4 zR_r4
  obtain ⟨cP_r5, fP_r5, zP_r5⟩ := xP_r5.out
  obtain ⟨cA_r5, fA_r5, zA_r5⟩ := xA_r5.out
  obtain ⟨cC_r5, fC_r5, zC_r5⟩ := xC_r5.out
  obtain ⟨cR_r5, fR_r5, zR_r5⟩ := xR_r5.out
  go_wp2_with fail
  go_loopw [11] (fun s11 wr => ∃ (k : Int) (v1 : Value) (L1 : List (Int × Int)) (f1 : Bool), s11 = .int .i64 k ∧ k0 ≤ k ∧ (k ≤ l + 1 ∨ k = k0) ∧ Bx wr p #[.int .i64 n, .int .i64 d, .bool sec, v1, .bool f1] ∧ Bx wr (w.heap.size) #[.int .i64 a, .int .i64 b] ∧ Bx wr (w.heap.size + 1) #[.int .i64 c, .int .i64 e] ∧ Bx wr (w.heap.size + 1 + 1) #[.int .i64 0, .int .i64 0] ∧ OwnF wr B v1 L1 ∧ Hid (Gd sec n d (b + k * e - 1) L1 f1) ∧ Hid (RowOf w (.slice la L.length lc) v1) ∧ Hid (v1.ownBlock ≠ some p ∧ v1.ownBlock ≠ some (w.heap.size) ∧ v1.ownBlock ≠ some (w.heap.size + 1) ∧ v1.ownBlock ≠ some (w.heap.size + 1 + 1)) ∧ Upv w wr p (.slice la L.length lc)) (fun s11 _ => (l + 1 - intOf s11).toNat)
  case atStart => exact ⟨k0, _, L, false, rfl, Int.le_refl _, .inr rfl, xP_r5, xA_r5, xC_r5, xR_r5, HO.out.below Br5, HG0, Lib.hid (fun k h => .inl h), Lib.hid ⟨HP.out, (fun q => by have := (HO.out.lt _ q).2; omega), (fun q => by have := (HO.out.lt _ q).2; omega), (fun q => by have := (HO.out.lt _ q).2; omega)⟩, upv_bl (upv_refl _ _ _) Br5⟩
  case round =>
    obtain ⟨k, v1, L1, f1, rfl, hk1, hk2, xP, xA, xC, xR, ho1, HGK, HRW, HNE, HU⟩ := hrel
    have HO1 := Lib.hid ho1
    obtain ⟨va, vc, rfl, _⟩ := ho1.form
    clear ho1 cP_r5 fP_r5 zP_r5 cA_r5 fA_r5 zA_r5 cC_r5 fC_r5 zC_r5 cR_r5 fR_r5 zR_r5
    have hpr := xP.out.2.2
    have har := xA.out.2.2
    have hcr := xC.out.2.2
    have hrr := xR.out.2.2
    have hus := HU.size
    have hB1 : B ≤ wr.heap.size := Nat.le_trans hB hus
    by_cases hkl : k ≤ l
    · cases f1 with
      | true =>
        have hkY : (k + 1) ≤ l + 1 := by omega
        have HGE := Lib.hid (gd_full (L' := L1) (Q' := b + (l + 1) * e - 1) HGK.out (tgt_mono sec n d (by have := Int.mul_le_mul_of_nonneg_right (show k ≤ l + 1 by omega) (show 0 ≤ e by omega); omega)))
        obtain ⟨cP, fP, zP⟩ := xP.out
        obtain ⟨cA, fA, zA⟩ := xA.out
        obtain ⟨cC, fC, zC⟩ := xC.out
        obtain ⟨cR, fR, zR⟩ := xR.out
        obtain ⟨x9, hx9⟩ : ∃ x, a + l * c = x := ⟨_, rfl⟩
        obtain ⟨y9, hy9⟩ : ∃ x, b + l * e = x := ⟨_, rfl⟩
        have HX9 := Lib.hid hx9
        have HY9 := Lib.hid hy9
        have pc := prod_bdK (k := l) (c := c) (by omega) (by omega)
        have pe := prod_bdK (k := l) (c := e) (by omega) (by omega)
        clear hx9 hy9
        go_wp2_with fail
        refine (plusK HX9.out HY9.out _ (by omega) (by omega) (by omega) (by omega)).mono ?_
        rintro e we1 ⟨rfl, hbe1⟩
        have xP9 := xP.below hbe1
        have xR9 := xR.below hbe1
        have hse1 := hbe1.size
        clear cP fP zP cA fA zA cC fC zC cR fR zR
        obtain ⟨c8, f8, z8⟩ := xP9.out
        obtain ⟨c9, f9, z9⟩ := xR9.out
        have HO9 := Lib.hid (HO1.out.below hbe1)
        go_wp2
        refine bodyPost_ret (v := .agg #[.int .i64 x9, .int .i64 y9]) (by simp only [results, Try.results101]; go_simp) rfl ?_
        have uR := upd_set (upd_set (upd_refl we1 (w.heap.size + 1 + 1)) 0 (.int .i64 x9)) 1 (.int .i64 y9)
        have hPR : p ≠ w.heap.size + 1 + 1 := by omega
        have uW : Upv w _ p (.slice la L.length lc) := upv_far (upv_far (upv_bl HU hbe1) (q := ⟨w.heap.size + 1 + 1, 0, none⟩) (by show w.heap.size ≤ w.heap.size + 1 + 1; omega) (.int .i64 x9)) (q := ⟨w.heap.size + 1 + 1, 1, none⟩) (by show w.heap.size ≤ w.heap.size + 1 + 1; omega) (.int .i64 y9)
        exact ⟨by rw [HX9.out, HY9.out], uW, _, L1, true, xP9.upd uR hPR, HO9.out.upd uR HNE.out.2.2.2, HRW.out, HGE.out⟩
      | false =>
        obtain ⟨c1, f1, z1'⟩ := xP.out
        obtain ⟨c2, f2, z2'⟩ := xA.out
        obtain ⟨c3, f3, z3'⟩ := xC.out
        have HYX := Lib.hid (HKA.out k hkl)
        obtain ⟨x9, hx9⟩ : ∃ x, a + k * c = x := ⟨_, rfl⟩
        obtain ⟨y9, hy9⟩ : ∃ x, b + k * e = x := ⟨_, rfl⟩
        have HX9 := Lib.hid hx9
        have HY9 := Lib.hid hy9
        have hs9 := HSM.out k (by omega) HYX.out
        have hg9 := gd_step HGK.out (HST.out k (by omega) HYX.out)
        rw [hx9, hy9] at hs9 hg9
        have HS9 := Lib.hid hs9
        have HG9 := Lib.hid hg9
        have hll := gd_len HGK.out
        have pc := prod_bdK (k := k) (c := c) (by omega) (by omega)
        have pe := prod_bdK (k := k) (c := e) (by omega) (by omega)
        clear hx9 hy9 hs9 hg9
        go_wp2_with fail
        refine (plusK HX9.out HY9.out _ (by omega) (by omega) (by omega) (by omega)).mono ?_
        rintro r9 w2 ⟨rfl, hb2⟩
        have xP2 := xP.below hb2
        have xA2 := xA.below hb2
        have xC2 := xC.below hb2
        have xR2 := xR.below hb2
        have hs2 := hb2.size
        have hU2 := upv_bl HU hb2
        clear c1 f1 z1' c2 f2 z2' c3 f3 z3'
        obtain ⟨c1, f1, z1'⟩ := xP2.out
        go_wp2_with fail
        refine (see_any xP2 (HO1.out.below hb2) (by omega) HNE.out.1 HS9.out hll).mono ?_
        rintro r9 w3 ⟨rfl, hu3, v3, xP3, ho3, hr3⟩
        have xA3 := xA2.upv hu3 (by omega) HNE.out.2.1
        have xC3 := xC2.upv hu3 (by omega) HNE.out.2.2.1
        have xR3 := xR2.upv hu3 (by omega) HNE.out.2.2.2
        have HR3 := Lib.hid (row_rowK HRW.out hr3 (by omega))
        have HN3 := Lib.hid (show v3.ownBlock ≠ some p ∧ v3.ownBlock ≠ some (w.heap.size) ∧ v3.ownBlock ≠ some (w.heap.size + 1) ∧ v3.ownBlock ≠ some (w.heap.size + 1 + 1) from ⟨ne_rowK hr3 HNE.out.1 (by omega), ne_rowK hr3 HNE.out.2.1 (by omega), ne_rowK hr3 HNE.out.2.2.1 (by omega), ne_rowK hr3 HNE.out.2.2.2 (by omega)⟩)
        have hU3 := upv_upv hU2 hu3 HRW.out
        clear c1 f1 z1'
        go_wp2
        go_roundw
        case rel => exact ⟨k + 1, v3, _, _, by go_num, by omega, .inl (by omega), xP3, xA3, xC3, xR3, ho3, HG9, HR3, HN3, hU3⟩
        case measure => simp only [intOf]; omega
    · have HGE := Lib.hid (show Gd sec n d (b + (l + 1) * e - 1) L1 f1 by
        rcases hk2 with q | q
        · obtain rfl : k = l + 1 := by omega
          exact HGK.out
        · subst q
          rcases Int.lt_or_le (l + 1) k with r | r
          · exact gd_eq HGK.out (HFL.out r)
          · obtain rfl : k = l + 1 := by omega
            exact HGK.out)
      obtain ⟨cP, fP, zP⟩ := xP.out
      obtain ⟨cA, fA, zA⟩ := xA.out
      obtain ⟨cC, fC, zC⟩ := xC.out
      obtain ⟨cR, fR, zR⟩ := xR.out
      obtain ⟨x9, hx9⟩ : ∃ x, a + l * c = x := ⟨_, rfl⟩
      obtain ⟨y9, hy9⟩ : ∃ x, b + l * e = x := ⟨_, rfl⟩
      have HX9 := Lib.hid hx9
      have HY9 := Lib.hid hy9
      have pc := prod_bdK (k := l) (c := c) (by omega) (by omega)
      have pe := prod_bdK (k := l) (c := e) (by omega) (by omega)
      clear hx9 hy9
      go_wp2_with fail
      refine (plusK HX9.out HY9.out _ (by omega) (by omega) (by omega) (by omega)).mono ?_
      rintro e we1 ⟨rfl, hbe1⟩
      have xP9 := xP.below hbe1
      have xR9 := xR.below hbe1
      have hse1 := hbe1.size
      clear cP fP zP cA fA zA cC fC zC cR fR zR
      obtain ⟨c8, f8, z8⟩ := xP9.out
      obtain ⟨c9, f9, z9⟩ := xR9.out
      have HO9 := Lib.hid (HO1.out.below hbe1)
      go_wp2
      refine bodyPost_ret (v := .agg #[.int .i64 x9, .int .i64 y9]) (by simp only [results, Try.results101]; go_simp) rfl ?_
      have uR := upd_set (upd_set (upd_refl we1 (w.heap.size + 1 + 1)) 0 (.int .i64 x9)) 1 (.int .i64 y9)
      have hPR : p ≠ w.heap.size + 1 + 1 := by omega
      have uW : Upv w _ p (.slice la L.length lc) := upv_far (upv_far (upv_bl HU hbe1) (q := ⟨w.heap.size + 1 + 1, 0, none⟩) (by show w.heap.size ≤ w.heap.size + 1 + 1; omega) (.int .i64 x9)) (q := ⟨w.heap.size + 1 + 1, 1, none⟩) (by show w.heap.size ≤ w.heap.size + 1 + 1; omega) (.int .i64 y9)
      exact ⟨by rw [HX9.out, HY9.out], uW, _, L1, f1, xP9.upd uR hPR, HO9.out.upd uR HNE.out.2.2.2, HRW.out, HGE.out⟩

end Go.Proofs.Ytbonlompmnhmiaa
