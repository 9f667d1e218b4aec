/- EqualSources: the program and the reference give the same. No condition. -/
import Derived.Test.YtgkelemfbmmgnaaMO4
import Derived.Test.YtgkelemfbmmgnaaMO7
namespace Go.Proofs.Ytgkelemfbmmgnaa
open Go.RowKit
set_option linter.unusedVariables false
theorem Sl.num {w : World} {a : Option Addr} {n c : Nat} {xs : List Int} (h : Sl w (.slice a n c) xs) : n = xs.length := by
  obtain ⟨a', c', e, _⟩ := h
  simp only [Value.slice.injEq] at e
  exact e.2.1
theorem ret_biE {r : Bool × Int} {b : Bool} {c : Int} (h : r = (b, c)) : Ending.returned (.tuple #[.bool b, .int .i64 c]) = .returned (.tuple #[.bool r.1, .int .i64 r.2]) := by subst h; rfl
/-- Do two sources have the same terms for ever? -/
def Ever (s t : Src) : Prop := ∀ k, termP s k = termP t k
noncomputable def eqSrcF (s t : Src) : Bool × Int := if okSrc s && okSrc t then (@decide (Ever (plainS s) (plainS t)) (Classical.propDecidable _), 0) else (false, 1)
theorem eqSrcF_yes {s t : Src} (h1 : okSrc s = true) (h2 : okSrc t = true) (h : Ever (plainS s) (plainS t)) : eqSrcF s t = (true, 0) := by simp [eqSrcF, h1, h2, h]
theorem eqSrcF_no {s t : Src} (h1 : okSrc s = true) (h2 : okSrc t = true) {k : Nat} {x y : Int} {o u : Bool} (hx : termP (plainS s) k = (x, o)) (hy : termP (plainS t) k = (y, u)) (hne : (x, o) ≠ (y, u)) : eqSrcF s t = (false, 0) := by
  have : ¬ Ever (plainS s) (plainS t) := fun h => hne (by rw [← hx, ← hy]; exact h k)
  simp [eqSrcF, h1, h2, this]
theorem termP_off {s : Src} {k : Nat} {x : Int} (h : termP s k = (x, false)) : s.P.length = 0 ∧ s.H.length ≤ k := by
  unfold termP at h
  split at h
  · simp at h
  · split at h
    · rename_i h1 h2
      exact ⟨h2, by omega⟩
    · simp at h
theorem ever_off {s t : Src} {k : Nat} {x y : Int} (h : ∀ j, j < k → termP s j = termP t j) (hx : termP s k = (x, false)) (hy : termP t k = (y, false)) : Ever s t := by
  intro j
  rcases Nat.lt_or_ge j k with q | q
  · exact h j q
  · have a := termP_off hx
    have b := termP_off hy
    rw [termP_none a.1 (by omega), termP_none b.1 (by omega)]
theorem plain_len {s : Src} (ok : OkSrc s) : (plainS s).H.length ≤ 30 ∧ (plainS s).P.length ≤ 30 := by
  have := ok.h30; have := ok.p30
  unfold plainS
  split
  · have := shortL_len s.H; simp; omega
  · omega
theorem ever_1830 {s t : Src} (k1 : OkSrc s) (k2 : OkSrc t) (h : ∀ j, j < 1830 → termP (plainS s) j = termP (plainS t) j) : Ever (plainS s) (plainS t) := by
  have a := plain_len k1
  have b := plain_len k2
  have m := Nat.mul_le_mul a.2 b.2
  exact equal_all (N := 1830) (by omega) (by omega) h
theorem ever_spec {s t : Src} {N : Nat} (hN : N = s.H.length + t.H.length + 3 * (s.P.length + 1) * (t.P.length + 1)) (h : ∀ j, j < N → termP s j = termP t j) : Ever s t := by
  have e : 3 * (s.P.length + 1) * (t.P.length + 1) = 3 * (s.P.length * t.P.length) + 3 * s.P.length + 3 * t.P.length + 3 := by grind
  exact equal_all (N := N) (by omega) (by omega) h
theorem upto1 {s t : Src} {k : Nat} (h : ∀ j, j < k → termP s j = termP t j) (hk : termP s k = termP t k) : ∀ j, j < k + 1 → termP s j = termP t j := fun j hj => by
  rcases Nat.lt_or_ge j k with q | q
  · exact h j q
  · obtain rfl : j = k := by omega
    exact hk

set_option maxRecDepth 100000 in
set_option maxHeartbeats 3200000 in
theorem impl_EqualSources (h p g : Value) (s : Src) (h' p' g' : Value) (t : Src) (w : World) (hs : SlS w h p g s) (ht : SlS w h' p' g' t) :
    Calls Try.prog 15 #[.agg #[h, p, g], .agg #[h', p', g']] w fun e w' => e = .returned (.tuple #[.bool (eqSrcF s t).1, .int .i64 (eqSrcF s t).2]) ∧ Bl w w' := by
  cases e1 : okSrc s with
  | false =>
    have HR := Lib.hid (show eqSrcF s t = (false, 1) by simp [eqSrcF, e1])
    have E1 := Lib.hid e1
    clear e1
    go_enter Try.func15, Try.ntmps15
    go_wp2_with fail
    refine (ivalid_eqL E1.out _ (hs.below (bl_alloc (bl_alloc (bl_refl _) _) _))).mono ?_
    rintro e w1 ⟨rfl, hb1⟩
    have B1 : Bl w w1 := bl_call (bl_alloc (bl_alloc (bl_refl _) _) _) hb1
    have xF_1 : Bx w1 (w.heap.size) #[h, p, g] := ((Bx.new (b := w.heap.size) _ #[h, p, g] 26 (by first | rfl | simp)).alloc _).below hb1
    have xG_1 : Bx w1 (w.heap.size + 1) #[h', p', g'] := (Bx.new (b := w.heap.size + 1) _ #[h', p', g'] 26 (by first | rfl | simp)).below hb1
    obtain ⟨cF_1, fF_1, zF_1⟩ := xF_1.out
    obtain ⟨cG_1, fG_1, zG_1⟩ := xG_1.out
    go_wp2
    go_ret2
    exact ⟨ret_biE HR.out, B1⟩
  | true =>
    cases e2 : okSrc t with
    | false =>
      have HR := Lib.hid (show eqSrcF s t = (false, 1) by simp [eqSrcF, e1, e2])
      have E1 := Lib.hid e1
      clear e1
      have E2 := Lib.hid e2
      clear e2
      go_enter Try.func15, Try.ntmps15
      go_wp2_with fail
      refine (ivalid_eqL E1.out _ (hs.below (bl_alloc (bl_alloc (bl_refl _) _) _))).mono ?_
      rintro e w1 ⟨rfl, hb1⟩
      have B1 : Bl w w1 := bl_call (bl_alloc (bl_alloc (bl_refl _) _) _) hb1
      have xF_1 : Bx w1 (w.heap.size) #[h, p, g] := ((Bx.new (b := w.heap.size) _ #[h, p, g] 26 (by first | rfl | simp)).alloc _).below hb1
      have xG_1 : Bx w1 (w.heap.size + 1) #[h', p', g'] := (Bx.new (b := w.heap.size + 1) _ #[h', p', g'] 26 (by first | rfl | simp)).below hb1
      obtain ⟨cF_1, fF_1, zF_1⟩ := xF_1.out
      obtain ⟨cG_1, fG_1, zG_1⟩ := xG_1.out
      go_wp2_with fail
      refine (ivalid_eqL E2.out _ (ht.below B1)).mono ?_
      rintro e w2 ⟨rfl, hb2⟩
      have B2 : Bl w w2 := bl_call B1 hb2
      have xF_2 : Bx w2 (w.heap.size) #[h, p, g] := xF_1.below hb2
      have xG_2 : Bx w2 (w.heap.size + 1) #[h', p', g'] := xG_1.below hb2
      clear cF_1 fF_1 zF_1 cG_1 fG_1 zG_1
      obtain ⟨cF_2, fF_2, zF_2⟩ := xF_2.out
      obtain ⟨cG_2, fG_2, zG_2⟩ := xG_2.out
      go_wp2
      go_ret2
      exact ⟨ret_biE HR.out, B2⟩
    | true =>
      have K1 := okSrc_H e1
      have K2 := okSrc_H e2
      have E1 := Lib.hid e1
      clear e1
      have E2 := Lib.hid e2
      clear e2
      go_enter Try.func15, Try.ntmps15
      go_wp2_with fail
      refine (ivalid_eqL E1.out _ (hs.below (bl_alloc (bl_alloc (bl_refl _) _) _))).mono ?_
      rintro e w1 ⟨rfl, hb1⟩
      have B1 : Bl w w1 := bl_call (bl_alloc (bl_alloc (bl_refl _) _) _) hb1
      have xF_1 : Bx w1 (w.heap.size) #[h, p, g] := ((Bx.new (b := w.heap.size) _ #[h, p, g] 26 (by first | rfl | simp)).alloc _).below hb1
      have xG_1 : Bx w1 (w.heap.size + 1) #[h', p', g'] := (Bx.new (b := w.heap.size + 1) _ #[h', p', g'] 26 (by first | rfl | simp)).below hb1
      obtain ⟨cF_1, fF_1, zF_1⟩ := xF_1.out
      obtain ⟨cG_1, fG_1, zG_1⟩ := xG_1.out
      go_wp2_with fail
      refine (ivalid_eqL E2.out _ (ht.below B1)).mono ?_
      rintro e w2 ⟨rfl, hb2⟩
      have B2 : Bl w w2 := bl_call B1 hb2
      have xF_2 : Bx w2 (w.heap.size) #[h, p, g] := xF_1.below hb2
      have xG_2 : Bx w2 (w.heap.size + 1) #[h', p', g'] := xG_1.below hb2
      clear cF_1 fF_1 zF_1 cG_1 fG_1 zG_1
      obtain ⟨cF_2, fF_2, zF_2⟩ := xF_2.out
      obtain ⟨cG_2, fG_2, zG_2⟩ := xG_2.out
      go_wp2_with fail
      go_cut [6, 7] (fun s8 s9 wx => ∃ (q8 q9 : Nat) (ax1 : Option Addr) (nx1 cx1 : Nat) (ax2 : Option Addr) (nx2 cx2 : Nat) (ax3 : Option Addr) (nx3 cx3 : Nat) (ax4 : Option Addr) (nx4 cx4 : Nat) (fx : Bool) (ay1 : Option Addr) (ny1 cy1 : Nat) (ay2 : Option Addr) (ny2 cy2 : Nat) (ay3 : Option Addr) (ny3 cy3 : Nat) (ay4 : Option Addr) (ny4 cy4 : Nat) (fy : Bool), s8 = .pointer (some ⟨q8, 0, none⟩) ∧ s9 = .pointer (some ⟨q9, 0, none⟩) ∧ Bx wx q8 #[.slice ax1 nx1 cx1, .slice ax2 nx2 cx2, .slice ax3 nx3 cx3, .slice ax4 nx4 cx4, .bool fx] ∧ Bx wx q9 #[.slice ay1 ny1 cy1, .slice ay2 ny2 cy2, .slice ay3 ny3 cy3, .slice ay4 ny4 cy4, .bool fy] ∧ ShS wx ax1 nx1 cx1 ax2 nx2 cx2 ax3 nx3 cx3 ax4 nx4 cx4 fx (plainS s) ∧ ShS wx ay1 ny1 cy1 ay2 ny2 cy2 ay3 ny3 cy3 ay4 ny4 cy4 fy (plainS t) ∧ Bl w2 wx)
      case first =>
        have BB := bl_drew (bl_refl w2)
        go_region_held3 (fun w' => w'.cell? ⟨w.heap.size, 0, none⟩ = some (h) ∧ w'.cell? ⟨w.heap.size, 1, none⟩ = some (p) ∧ w'.cell? ⟨w.heap.size, 2, none⟩ = some (g) ∧ w'.cell? ⟨w.heap.size + 1, 0, none⟩ = some (h') ∧ w'.cell? ⟨w.heap.size + 1, 1, none⟩ = some (p') ∧ w'.cell? ⟨w.heap.size + 1, 2, none⟩ = some (g')) (first | (simp [*]; done) | (go_simp; done) | go_keep)
          (first | (go_at_call_of 42 h; go_must (refine (shortOf_any h p g s _ ((hs.below B2).below (by first | exact BB | exact bl_alloc BB _ | exact bl_alloc (bl_alloc BB _) _)) K1).mono ?_; rintro e u1 ⟨ax1, nx1, cx1, ax2, nx2, cx2, ax3, nx3, cx3, ax4, nx4, cx4, fx, rfl, H1, hu1⟩; have BB : Bl w2 u1 := bl_call (by first | exact BB | exact bl_alloc BB _ | exact bl_alloc (bl_alloc BB _) _) hu1; have zu1 := hu1.size; (try simp at zu1); obtain ⟨c0_1, f0_1, z0_1⟩ := (xF_2.below BB).out; obtain ⟨c1_1, f1_1, z1_1⟩ := (xG_2.below BB).out; (first | (have nA := ((Bx.new (b := w2.heap.size) w2 #[.slice none 0 0, .slice none 0 0, .slice none 0 0, .slice none 0 0, .bool false] 71 rfl).alloc (.cells #[.slice none 0 0, .slice none 0 0, .slice none 0 0, .slice none 0 0, .bool false] 71)).drew.below hu1; have nB := (Bx.new (b := w2.heap.size + 1) (w2.alloc (.cells #[.slice none 0 0, .slice none 0 0, .slice none 0 0, .slice none 0 0, .bool false] 71)) #[.slice none 0 0, .slice none 0 0, .slice none 0 0, .slice none 0 0, .bool false] 71 (by simp)).drew.below hu1; obtain ⟨cnA, fnA, znA⟩ := nA.out; obtain ⟨cnB, fnB, znB⟩ := nB.out) | (have nA := (Bx.new (b := w2.heap.size) w2 #[.slice none 0 0, .slice none 0 0, .slice none 0 0, .slice none 0 0, .bool false] 71 rfl).drew.below hu1; obtain ⟨cnA, fnA, znA⟩ := nA.out) | skip))) | (go_at_call_of 42 h'; go_must (refine (shortOf_any h' p' g' t _ ((ht.below B2).below (by first | exact BB | exact bl_alloc BB _ | exact bl_alloc (bl_alloc BB _) _)) K2).mono ?_; rintro e u2 ⟨ay1, ny1, cy1, ay2, ny2, cy2, ay3, ny3, cy3, ay4, ny4, cy4, fy, rfl, H2, hu2⟩; have BB : Bl w2 u2 := bl_call (by first | exact BB | exact bl_alloc BB _ | exact bl_alloc (bl_alloc BB _) _) hu2; have zu2 := hu2.size; (try simp at zu2); obtain ⟨c0_2, f0_2, z0_2⟩ := (xF_2.below BB).out; obtain ⟨c1_2, f1_2, z1_2⟩ := (xG_2.below BB).out; (first | (have H1 := H1.below hu2) | (have H1 := (H1.alloc _).below hu2) | (have H1 := ((H1.alloc _).alloc _).below hu2)); (first | (have nA := nA.below hu2; obtain ⟨cnA, fnA, znA⟩ := nA.out) | (have nA := (nA.alloc _).below hu2; obtain ⟨cnA, fnA, znA⟩ := nA.out) | skip); (first | (have nB := nB.below hu2; obtain ⟨cnB, fnB, znB⟩ := nB.out) | (have nB := (nB.alloc _).below hu2; obtain ⟨cnB, fnB, znB⟩ := nB.out) | skip); (first | (have nC := ((Bx.new (b := u1.heap.size) u1 #[.slice none 0 0, .slice none 0 0, .slice none 0 0, .slice none 0 0, .bool false] 71 rfl).alloc (.cells #[.slice none 0 0, .slice none 0 0, .slice none 0 0, .slice none 0 0, .bool false] 71)).below hu2; have nD := (Bx.new (b := u1.heap.size + 1) (u1.alloc (.cells #[.slice none 0 0, .slice none 0 0, .slice none 0 0, .slice none 0 0, .bool false] 71)) #[.slice none 0 0, .slice none 0 0, .slice none 0 0, .slice none 0 0, .bool false] 71 (by simp)).below hu2; obtain ⟨cnC, fnC, znC⟩ := nC.out; obtain ⟨cnD, fnD, znD⟩ := nD.out) | (have nC := (Bx.new (b := u1.heap.size) u1 #[.slice none 0 0, .slice none 0 0, .slice none 0 0, .slice none 0 0, .bool false] 71 rfl).below hu2; obtain ⟨cnC, fnC, znC⟩ := nC.out) | skip))))
        all_goals (go_wp2_with fail; go_meet)
        all_goals (refine ⟨_, _, ax1, nx1, cx1, ax2, nx2, cx2, ax3, nx3, cx3, ax4, nx4, cx4, fx, ay1, ny1, cy1, ay2, ny2, cy2, ay3, ny3, cy3, ay4, ny4, cy4, fy, rfl, rfl, ?_, ?_, ?_, ?_, ?_⟩; (try simp at zu1); (try simp at zu2); (· (repeat' first | (with_reducible exact nA) | (with_reducible exact nB) | (with_reducible exact nC) | (with_reducible exact nD) | (with_reducible refine Bx.set5 ?_ _ _ _ _ _) | (with_reducible refine Bx.far5 ?_ ?_ _ _ _ _ _) | ((with_reducible refine Bx.new _ _ _ ?_); (simp; done)) | (with_reducible refine Bx.alloc ?_ _) | ((with_reducible refine Nat.ne_of_lt ?_); omega) | ((with_reducible refine Nat.ne_of_gt ?_); omega))); (· (repeat' first | (with_reducible exact nA) | (with_reducible exact nB) | (with_reducible exact nC) | (with_reducible exact nD) | (with_reducible refine Bx.set5 ?_ _ _ _ _ _) | (with_reducible refine Bx.far5 ?_ ?_ _ _ _ _ _) | ((with_reducible refine Bx.new _ _ _ ?_); (simp; done)) | (with_reducible refine Bx.alloc ?_ _) | ((with_reducible refine Nat.ne_of_lt ?_); omega) | ((with_reducible refine Nat.ne_of_gt ?_); omega))); (· (repeat' first | (with_reducible exact H1) | (with_reducible exact H2) | (with_reducible refine ShS.far5 ?_ ?_ _ _ _ _ _) | (with_reducible refine ShS.alloc ?_ _) | (with_reducible exact nA) | (with_reducible exact nB) | (with_reducible exact nC) | (with_reducible exact nD) | (with_reducible refine Bx.set5 ?_ _ _ _ _ _) | (with_reducible refine Bx.far5 ?_ ?_ _ _ _ _ _) | ((with_reducible refine Bx.new _ _ _ ?_); (simp; done)) | (with_reducible refine Bx.alloc ?_ _) | ((with_reducible refine Nat.ne_of_lt ?_); omega) | ((with_reducible refine Nat.ne_of_gt ?_); omega))); (· (repeat' first | (with_reducible exact H1) | (with_reducible exact H2) | (with_reducible refine ShS.far5 ?_ ?_ _ _ _ _ _) | (with_reducible refine ShS.alloc ?_ _) | (with_reducible exact nA) | (with_reducible exact nB) | (with_reducible exact nC) | (with_reducible exact nD) | (with_reducible refine Bx.set5 ?_ _ _ _ _ _) | (with_reducible refine Bx.far5 ?_ ?_ _ _ _ _ _) | ((with_reducible refine Bx.new _ _ _ ?_); (simp; done)) | (with_reducible refine Bx.alloc ?_ _) | ((with_reducible refine Nat.ne_of_lt ?_); omega) | ((with_reducible refine Nat.ne_of_gt ?_); omega))); (· (repeat first | (with_reducible exact BB) | (with_reducible refine bl_alloc ?_ _) | (with_reducible refine bl_set ?_ (by first | exact Nat.le_refl _ | exact Nat.le_succ _ | (first | omega | (simp; done) | (simp; omega))) _))))
      case rest =>
        obtain ⟨q8, q9, ax1, nx1, cx1, ax2, nx2, cx2, ax3, nx3, cx3, ax4, nx4, cx4, fx, ay1, ny1, cy1, ay2, ny2, cy2, ay3, ny3, cy3, ay4, ny4, cy4, fy, rfl, rfl, xX, xY, HX, HY, hj⟩ := hcut
        obtain ⟨w5, rfl⟩ : ∃ x : World, x = wc := ⟨_, rfl⟩
        have B5 : Bl w w5 := bl_call B2 hj
        have HX := Lib.hid HX
        have HY := Lib.hid HY
        clear cF_2 fF_2 zF_2 cG_2 fG_2 zG_2
        obtain ⟨cX, fX, zX⟩ := xX.out
        obtain ⟨cY, fY, zY⟩ := xY.out
        go_wp2_with fail
        go_loopw [25, 8] (fun s25 s8 wr => ∃ k : Nat, s25 = .int .i64 k ∧ k ≤ 1830 ∧ Hid (∀ j, j < k → termP (plainS s) j = termP (plainS t) j) ∧ Bx wr (q8) #[.slice ax1 nx1 cx1, .slice ax2 nx2 cx2, .slice ax3 nx3 cx3, .slice ax4 nx4 cx4, .bool fx] ∧ Bx wr (q9) #[.slice ay1 ny1 cy1, .slice ay2 ny2 cy2, .slice ay3 ny3 cy3, .slice ay4 ny4 cy4, .bool fy] ∧ ShS wr ax1 nx1 cx1 ax2 nx2 cx2 ax3 nx3 cx3 ax4 nx4 cx4 fx (plainS s) ∧ ShS wr ay1 ny1 cy1 ay2 ny2 cy2 ay3 ny3 cy3 ay4 ny4 cy4 fy (plainS t) ∧ Bl w wr) (fun s25 _ _ => 1830 - (intOf s25).toNat)
        case atStart => exact ⟨0, rfl, Nat.zero_le _, Lib.hid (fun j hj => absurd hj (Nat.not_lt_zero _)), xX, xY, HX.out, HY.out, B5⟩
        case round =>
          rcases hrel with ⟨k, rfl, hkm, hG, yX, yY, sX, sY, Br⟩
          have SX := Lib.hid sX
          have SY := Lib.hid sY
          clear sX sY cX fX zX cY fY zY
          obtain ⟨cX, fX, zX⟩ := yX.out
          obtain ⟨cY, fY, zY⟩ := yY.out
          by_cases hk : k < 1830
          ·
            obtain ⟨⟨x, o⟩, hx⟩ : ∃ z, termP (plainS s) k = z := ⟨_, rfl⟩
            obtain ⟨⟨y, u⟩, hy⟩ : ∃ z, termP (plainS t) k = z := ⟨_, rfl⟩
            have TX := Lib.hid hx
            have TY := Lib.hid hy
            clear hx hy
            go_wp2_with fail
            refine (at_eq TX.out _ SX.out (by omega)).mono ?_
            rintro e wr1 ⟨rfl, hbr1⟩
            have Br1 : Bl w wr1 := bl_call Br hbr1
            have xX_r1 : Bx wr1 (q8) #[.slice ax1 nx1 cx1, .slice ax2 nx2 cx2, .slice ax3 nx3 cx3, .slice ax4 nx4 cx4, .bool fx] := yX.below hbr1
            have xY_r1 : Bx wr1 (q9) #[.slice ay1 ny1 cy1, .slice ay2 ny2 cy2, .slice ay3 ny3 cy3, .slice ay4 ny4 cy4, .bool fy] := yY.below hbr1
            clear cX fX zX cY fY zY
            obtain ⟨cX_r1, fX_r1, zX_r1⟩ := xX_r1.out
            obtain ⟨cY_r1, fY_r1, zY_r1⟩ := xY_r1.out
            go_wp2_with fail
            refine (at_eq TY.out _ (SY.out.below hbr1) (by omega)).mono ?_
            rintro e wr2 ⟨rfl, hbr2⟩
            have Br2 : Bl w wr2 := bl_call Br1 hbr2
            have xX_r2 : Bx wr2 (q8) #[.slice ax1 nx1 cx1, .slice ax2 nx2 cx2, .slice ax3 nx3 cx3, .slice ax4 nx4 cx4, .bool fx] := xX_r1.below hbr2
            have xY_r2 : Bx wr2 (q9) #[.slice ay1 ny1 cy1, .slice ay2 ny2 cy2, .slice ay3 ny3 cy3, .slice ay4 ny4 cy4, .bool fy] := xY_r1.below hbr2
            clear cX_r1 fX_r1 zX_r1 cY_r1 fY_r1 zY_r1
            obtain ⟨cX_r2, fX_r2, zX_r2⟩ := xX_r2.out
            obtain ⟨cY_r2, fY_r2, zY_r2⟩ := xY_r2.out
            cases o with
            | false =>
              cases u with
              | false =>
                have HE := Lib.hid (eqSrcF_yes E1.out E2.out (ever_off hG.out TX.out TY.out))
                go_wp2
                go_ret2
                exact ⟨ret_biE HE.out, Br2⟩
              | true =>
                have HE := Lib.hid (eqSrcF_no E1.out E2.out TX.out TY.out (by simp))
                go_wp2
                go_ret2
                exact ⟨ret_biE HE.out, Br2⟩
            | true =>
              cases u with
              | false =>
                have HE := Lib.hid (eqSrcF_no E1.out E2.out TX.out TY.out (by simp))
                go_wp2
                go_ret2
                exact ⟨ret_biE HE.out, Br2⟩
              | true =>
                by_cases hxy : x = y
                · subst hxy
                  have HE := Lib.hid (upto1 hG.out (TX.out.trans TY.out.symm))
                  go_wp2
                  go_roundw
                  case rel => exact ⟨k + 1, by go_num, by omega, HE, xX_r2, xY_r2, (SX.out.below hbr1).below hbr2, (SY.out.below hbr1).below hbr2, Br2⟩
                  case measure => clear HE; simp only [intOf, Int.toNat_natCast]; omega
                ·
                  have hb : (x != y) = true := by simp [hxy]
                  have HE := Lib.hid (eqSrcF_no E1.out E2.out TX.out TY.out (by simp [hxy]))
                  clear hxy
                  go_wp2
                  go_ret2
                  exact ⟨ret_biE HE.out, Br2⟩
          ·
            obtain rfl : k = 1830 := by omega
            have HE := Lib.hid (eqSrcF_yes E1.out E2.out (ever_1830 K1 K2 hG.out))
            go_wp2
            go_ret2
            exact ⟨ret_biE HE.out, Br⟩

set_option maxRecDepth 100000 in
set_option maxHeartbeats 3200000 in
theorem spec_EqualSources (h p g : Value) (s : Src) (h' p' g' : Value) (t : Src) (w : World) (hs : SlS w h p g s) (ht : SlS w h' p' g' t) :
    Calls Try.prog 16 #[.agg #[h, p, g], .agg #[h', p', g']] w fun e w' => e = .returned (.tuple #[.bool (eqSrcF s t).1, .int .i64 (eqSrcF s t).2]) ∧ Bl w w' := by
  cases e1 : okSrc s with
  | false =>
    have HR := Lib.hid (show eqSrcF s t = (false, 1) by simp [eqSrcF, e1])
    have E1 := Lib.hid e1
    clear e1
    go_enter Try.func16, Try.ntmps16
    go_wp2_with fail
    refine (svalid_eqL E1.out _ (w.heap.size) (hs.below (bl_alloc (bl_alloc (bl_refl _) _) _)) ((Bx.new (b := w.heap.size) _ #[h, p, g] 26 (by first | rfl | simp)).alloc _)).mono ?_
    rintro e w1 ⟨rfl, hb1⟩
    have B1 : Bl w w1 := bl_call (bl_alloc (bl_alloc (bl_refl _) _) _) hb1
    have xF_1 : Bx w1 (w.heap.size) #[h, p, g] := ((Bx.new (b := w.heap.size) _ #[h, p, g] 26 (by first | rfl | simp)).alloc _).below hb1
    have xG_1 : Bx w1 (w.heap.size + 1) #[h', p', g'] := (Bx.new (b := w.heap.size + 1) _ #[h', p', g'] 26 (by first | rfl | simp)).below hb1
    obtain ⟨cF_1, fF_1, zF_1⟩ := xF_1.out
    obtain ⟨cG_1, fG_1, zG_1⟩ := xG_1.out
    go_wp2
    go_ret2
    exact ⟨ret_biE HR.out, B1⟩
  | true =>
    cases e2 : okSrc t with
    | false =>
      have HR := Lib.hid (show eqSrcF s t = (false, 1) by simp [eqSrcF, e1, e2])
      have E1 := Lib.hid e1
      clear e1
      have E2 := Lib.hid e2
      clear e2
      go_enter Try.func16, Try.ntmps16
      go_wp2_with fail
      refine (svalid_eqL E1.out _ (w.heap.size) (hs.below (bl_alloc (bl_alloc (bl_refl _) _) _)) ((Bx.new (b := w.heap.size) _ #[h, p, g] 26 (by first | rfl | simp)).alloc _)).mono ?_
      rintro e w1 ⟨rfl, hb1⟩
      have B1 : Bl w w1 := bl_call (bl_alloc (bl_alloc (bl_refl _) _) _) hb1
      have xF_1 : Bx w1 (w.heap.size) #[h, p, g] := ((Bx.new (b := w.heap.size) _ #[h, p, g] 26 (by first | rfl | simp)).alloc _).below hb1
      have xG_1 : Bx w1 (w.heap.size + 1) #[h', p', g'] := (Bx.new (b := w.heap.size + 1) _ #[h', p', g'] 26 (by first | rfl | simp)).below hb1
      obtain ⟨cF_1, fF_1, zF_1⟩ := xF_1.out
      obtain ⟨cG_1, fG_1, zG_1⟩ := xG_1.out
      go_wp2_with fail
      refine (svalid_eqL E2.out _ (w.heap.size + 1) (ht.below B1) xG_1).mono ?_
      rintro e w2 ⟨rfl, hb2⟩
      have B2 : Bl w w2 := bl_call B1 hb2
      have xF_2 : Bx w2 (w.heap.size) #[h, p, g] := xF_1.below hb2
      have xG_2 : Bx w2 (w.heap.size + 1) #[h', p', g'] := xG_1.below hb2
      clear cF_1 fF_1 zF_1 cG_1 fG_1 zG_1
      obtain ⟨cF_2, fF_2, zF_2⟩ := xF_2.out
      obtain ⟨cG_2, fG_2, zG_2⟩ := xG_2.out
      go_wp2
      go_ret2
      exact ⟨ret_biE HR.out, B2⟩
    | true =>
      have K1 := okSrc_H e1
      have K2 := okSrc_H e2
      have E1 := Lib.hid e1
      clear e1
      have E2 := Lib.hid e2
      clear e2
      go_enter Try.func16, Try.ntmps16
      go_wp2_with fail
      refine (svalid_eqL E1.out _ (w.heap.size) (hs.below (bl_alloc (bl_alloc (bl_refl _) _) _)) ((Bx.new (b := w.heap.size) _ #[h, p, g] 26 (by first | rfl | simp)).alloc _)).mono ?_
      rintro e w1 ⟨rfl, hb1⟩
      have B1 : Bl w w1 := bl_call (bl_alloc (bl_alloc (bl_refl _) _) _) hb1
      have xF_1 : Bx w1 (w.heap.size) #[h, p, g] := ((Bx.new (b := w.heap.size) _ #[h, p, g] 26 (by first | rfl | simp)).alloc _).below hb1
      have xG_1 : Bx w1 (w.heap.size + 1) #[h', p', g'] := (Bx.new (b := w.heap.size + 1) _ #[h', p', g'] 26 (by first | rfl | simp)).below hb1
      obtain ⟨cF_1, fF_1, zF_1⟩ := xF_1.out
      obtain ⟨cG_1, fG_1, zG_1⟩ := xG_1.out
      go_wp2_with fail
      refine (svalid_eqL E2.out _ (w.heap.size + 1) (ht.below B1) xG_1).mono ?_
      rintro e w2 ⟨rfl, hb2⟩
      have B2 : Bl w w2 := bl_call B1 hb2
      have xF_2 : Bx w2 (w.heap.size) #[h, p, g] := xF_1.below hb2
      have xG_2 : Bx w2 (w.heap.size + 1) #[h', p', g'] := xG_1.below hb2
      clear cF_1 fF_1 zF_1 cG_1 fG_1 zG_1
      obtain ⟨cF_2, fF_2, zF_2⟩ := xF_2.out
      obtain ⟨cG_2, fG_2, zG_2⟩ := xG_2.out
      go_wp2_with fail
      refine (plainSrc_any h p g s _ (w.heap.size) (hs.below B2) xF_2 K1.okPer K1.hb).mono ?_
      rintro e w3 ⟨u1, v1, z1, u2, v2, z2, u3, v3, z3, rfl, HA, hb3⟩
      have B3 : Bl w w3 := bl_call B2 hb3
      have xF_3 : Bx w3 (w.heap.size) #[h, p, g] := xF_2.below hb3
      have xG_3 : Bx w3 (w.heap.size + 1) #[h', p', g'] := xG_2.below hb3
      clear cF_2 fF_2 zF_2 cG_2 fG_2 zG_2
      obtain ⟨cF_3, fF_3, zF_3⟩ := xF_3.out
      obtain ⟨cG_3, fG_3, zG_3⟩ := xG_3.out
      obtain ⟨rfl, rfl⟩ : v1 = (plainS s).H.length ∧ v2 = (plainS s).P.length := ⟨HA.1.num, HA.2.1.num⟩
      have HA := Lib.hid HA
      go_wp2_with fail
      refine (plainSrc_any h' p' g' t _ (w.heap.size + 1) (ht.below (bl_alloc B3 _)) (xG_3.alloc _) K2.okPer K2.hb).mono ?_
      rintro e w4 ⟨p1, q1, r1, p2, q2, r2, p3, q3, r3, rfl, HB, hb4⟩
      have B4 : Bl w w4 := bl_call (bl_alloc B3 _) hb4
      have xF_4 : Bx w4 (w.heap.size) #[h, p, g] := (xF_3.alloc _).below hb4
      have xG_4 : Bx w4 (w.heap.size + 1) #[h', p', g'] := (xG_3.alloc _).below hb4
      have xA_4 : Bx w4 (w3.heap.size) #[.slice u1 (plainS s).H.length z1, .slice u2 (plainS s).P.length z2, .slice u3 v3 z3] := (Bx.new (b := w3.heap.size) _ #[.slice u1 (plainS s).H.length z1, .slice u2 (plainS s).P.length z2, .slice u3 v3 z3] 26 (by first | rfl | simp)).below hb4
      clear cF_3 fF_3 zF_3 cG_3 fG_3 zG_3
      obtain ⟨cF_4, fF_4, zF_4⟩ := xF_4.out
      obtain ⟨cG_4, fG_4, zG_4⟩ := xG_4.out
      obtain ⟨cA_4, fA_4, zA_4⟩ := xA_4.out
      obtain ⟨rfl, rfl⟩ : q1 = (plainS t).H.length ∧ q2 = (plainS t).P.length := ⟨HB.1.num, HB.2.1.num⟩
      have HA := Lib.hid ((HA.out.alloc _).below hb4)
      have HB := Lib.hid (HB.alloc (.cells #[.slice p1 (plainS t).H.length r1, .slice p2 (plainS t).P.length r2, .slice p3 q3 r3] 26))
      have HA := Lib.hid (HA.out.alloc (.cells #[.slice p1 (plainS t).H.length r1, .slice p2 (plainS t).P.length r2, .slice p3 q3 r3] 26))
      have la := plain_len K1
      have lb := plain_len K2
      obtain ⟨N, hN⟩ : ∃ N, N = (plainS s).H.length + (plainS t).H.length + 3 * ((plainS s).P.length + 1) * ((plainS t).P.length + 1) := ⟨_, rfl⟩
      have HN := Lib.hid hN
      have hm3 := Nat.mul_le_mul (show 3 * ((plainS s).P.length + 1) ≤ 93 by omega) (show (plainS t).P.length + 1 ≤ 31 by omega)
      have hN2 : N ≤ 3000 := by omega
      have hmi : (0 : Int) ≤ 3 * (((plainS s).P.length : Int) + 1) * (((plainS t).P.length : Int) + 1) ∧ 3 * (((plainS s).P.length : Int) + 1) * (((plainS t).P.length : Int) + 1) ≤ 2883 := by
        have e : 3 * (((plainS s).P.length : Int) + 1) * (((plainS t).P.length : Int) + 1) = ((3 * ((plainS s).P.length + 1) * ((plainS t).P.length + 1) : Nat) : Int) := by push_cast; rfl
        rw [e]; omega
      have HNI := Lib.hid (show ((plainS s).H.length : Int) + ((plainS t).H.length : Int) + 3 * (((plainS s).P.length : Int) + 1) * (((plainS t).P.length : Int) + 1) = (N : Int) by rw [hN]; push_cast; rfl)
      clear hN hm3
      go_wp2_with fail
      have B5 : Bl w (w4.alloc (.cells #[.slice p1 (plainS t).H.length r1, .slice p2 (plainS t).P.length r2, .slice p3 q3 r3] 26)) := (bl_alloc B4 _)
      have xF_5 : Bx (w4.alloc (.cells #[.slice p1 (plainS t).H.length r1, .slice p2 (plainS t).P.length r2, .slice p3 q3 r3] 26)) (w.heap.size) #[h, p, g] := (xF_4.alloc _)
      have xG_5 : Bx (w4.alloc (.cells #[.slice p1 (plainS t).H.length r1, .slice p2 (plainS t).P.length r2, .slice p3 q3 r3] 26)) (w.heap.size + 1) #[h', p', g'] := (xG_4.alloc _)
      have xA_5 : Bx (w4.alloc (.cells #[.slice p1 (plainS t).H.length r1, .slice p2 (plainS t).P.length r2, .slice p3 q3 r3] 26)) (w3.heap.size) #[.slice u1 (plainS s).H.length z1, .slice u2 (plainS s).P.length z2, .slice u3 v3 z3] := (xA_4.alloc _)
      have xB_5 : Bx (w4.alloc (.cells #[.slice p1 (plainS t).H.length r1, .slice p2 (plainS t).P.length r2, .slice p3 q3 r3] 26)) (w4.heap.size) #[.slice p1 (plainS t).H.length r1, .slice p2 (plainS t).P.length r2, .slice p3 q3 r3] := (Bx.new (b := w4.heap.size) _ #[.slice p1 (plainS t).H.length r1, .slice p2 (plainS t).P.length r2, .slice p3 q3 r3] 26 (by first | rfl | simp))
      have zz5 : w4.heap.size + 1 ≤ (w4.alloc (.cells #[.slice p1 (plainS t).H.length r1, .slice p2 (plainS t).P.length r2, .slice p3 q3 r3] 26)).heap.size := (by simp)
      clear cF_4 fF_4 zF_4 cG_4 fG_4 zG_4 cA_4 fA_4 zA_4
      generalize (w4.alloc (.cells #[.slice p1 (plainS t).H.length r1, .slice p2 (plainS t).P.length r2, .slice p3 q3 r3] 26)) = w5 at *
      obtain ⟨cF_5, fF_5, zF_5⟩ := xF_5.out
      obtain ⟨cG_5, fG_5, zG_5⟩ := xG_5.out
      obtain ⟨cA_5, fA_5, zA_5⟩ := xA_5.out
      obtain ⟨cB_5, fB_5, zB_5⟩ := xB_5.out
      rw [HNI.out]
      go_loopw [9] (fun s9 wr => ∃ k : Nat, s9 = .int .i64 k ∧ k ≤ N ∧ Hid (∀ j, j < k → termP (plainS s) j = termP (plainS t) j) ∧ Bx wr (w3.heap.size) #[.slice u1 (plainS s).H.length z1, .slice u2 (plainS s).P.length z2, .slice u3 v3 z3] ∧ Bx wr (w4.heap.size) #[.slice p1 (plainS t).H.length r1, .slice p2 (plainS t).P.length r2, .slice p3 q3 r3] ∧ SlS wr (.slice u1 (plainS s).H.length z1) (.slice u2 (plainS s).P.length z2) (.slice u3 v3 z3) (plainS s) ∧ SlS wr (.slice p1 (plainS t).H.length r1) (.slice p2 (plainS t).P.length r2) (.slice p3 q3 r3) (plainS t) ∧ Bl w wr) (fun s9 _ => N - (intOf s9).toNat)
      case atStart => exact ⟨0, rfl, Nat.zero_le _, Lib.hid (fun j hj => absurd hj (Nat.not_lt_zero _)), xA_5, xB_5, HA.out, HB.out, B5⟩
      case round =>
        rcases hrel with ⟨k, rfl, hkm, hG, yA, yB, sX, sY, Br⟩
        have SX := Lib.hid sX
        have SY := Lib.hid sY
        clear sX sY cF_5 fF_5 zF_5 cG_5 fG_5 zG_5 cA_5 fA_5 zA_5 cB_5 fB_5 zB_5
        obtain ⟨cA, fA, zA⟩ := yA.out
        obtain ⟨cB, fB, zB⟩ := yB.out
        by_cases hk : k < N
        ·
          obtain ⟨⟨x, o⟩, hx⟩ : ∃ z, termP (plainS s) k = z := ⟨_, rfl⟩
          obtain ⟨⟨y, u⟩, hy⟩ : ∃ z, termP (plainS t) k = z := ⟨_, rfl⟩
          have TX := Lib.hid hx
          have TY := Lib.hid hy
          clear hx hy
          go_wp2_with fail
          refine (sterm_eqS TX.out _ _ SX.out yA K1.okPer.plain (by omega)).mono ?_
          rintro e wr1 ⟨rfl, hbr1⟩
          have Br1 : Bl w wr1 := bl_call Br hbr1
          have xA_r1 : Bx wr1 (w3.heap.size) #[.slice u1 (plainS s).H.length z1, .slice u2 (plainS s).P.length z2, .slice u3 v3 z3] := yA.below hbr1
          have xB_r1 : Bx wr1 (w4.heap.size) #[.slice p1 (plainS t).H.length r1, .slice p2 (plainS t).P.length r2, .slice p3 q3 r3] := yB.below hbr1
          clear cA fA zA cB fB zB
          obtain ⟨cA_r1, fA_r1, zA_r1⟩ := xA_r1.out
          obtain ⟨cB_r1, fB_r1, zB_r1⟩ := xB_r1.out
          go_wp2_with fail
          refine (sterm_eqS TY.out _ _ (SY.out.below hbr1) xB_r1 K2.okPer.plain (by omega)).mono ?_
          rintro e wr2 ⟨rfl, hbr2⟩
          have Br2 : Bl w wr2 := bl_call Br1 hbr2
          have xA_r2 : Bx wr2 (w3.heap.size) #[.slice u1 (plainS s).H.length z1, .slice u2 (plainS s).P.length z2, .slice u3 v3 z3] := xA_r1.below hbr2
          have xB_r2 : Bx wr2 (w4.heap.size) #[.slice p1 (plainS t).H.length r1, .slice p2 (plainS t).P.length r2, .slice p3 q3 r3] := xB_r1.below hbr2
          clear cA_r1 fA_r1 zA_r1 cB_r1 fB_r1 zB_r1
          obtain ⟨cA_r2, fA_r2, zA_r2⟩ := xA_r2.out
          obtain ⟨cB_r2, fB_r2, zB_r2⟩ := xB_r2.out
          cases o with
          | false =>
            cases u with
            | false =>
              by_cases hxy : x = y
              · subst hxy
                have HE := Lib.hid (upto1 hG.out (TX.out.trans TY.out.symm))
                go_wp2
                go_roundw
                case rel => exact ⟨k + 1, by go_num, by omega, HE, xA_r2, xB_r2, (SX.out.below hbr1).below hbr2, (SY.out.below hbr1).below hbr2, Br2⟩
                case measure => clear HE; simp only [intOf, Int.toNat_natCast]; omega
              ·
                have hb : (x != y) = true := by simp [hxy]
                have HE := Lib.hid (eqSrcF_no E1.out E2.out TX.out TY.out (by simp [hxy]))
                clear hxy
                go_wp2
                go_ret2
                exact ⟨ret_biE HE.out, Br2⟩
            | true =>
              have HE := Lib.hid (eqSrcF_no E1.out E2.out TX.out TY.out (by simp))
              go_wp2
              go_ret2
              exact ⟨ret_biE HE.out, Br2⟩
          | true =>
            cases u with
            | false =>
              have HE := Lib.hid (eqSrcF_no E1.out E2.out TX.out TY.out (by simp))
              go_wp2
              go_ret2
              exact ⟨ret_biE HE.out, Br2⟩
            | true =>
              by_cases hxy : x = y
              · subst hxy
                have HE := Lib.hid (upto1 hG.out (TX.out.trans TY.out.symm))
                go_wp2
                go_roundw
                case rel => exact ⟨k + 1, by go_num, by omega, HE, xA_r2, xB_r2, (SX.out.below hbr1).below hbr2, (SY.out.below hbr1).below hbr2, Br2⟩
                case measure => clear HE; simp only [intOf, Int.toNat_natCast]; omega
              ·
                have hb : (x != y) = true := by simp [hxy]
                have HE := Lib.hid (eqSrcF_no E1.out E2.out TX.out TY.out (by simp [hxy]))
                clear hxy
                go_wp2
                go_ret2
                exact ⟨ret_biE HE.out, Br2⟩
        ·
          obtain rfl : k = N := by omega
          have HE := Lib.hid (eqSrcF_yes E1.out E2.out (ever_spec HN.out hG.out))
          go_wp2
          go_ret2
          exact ⟨ret_biE HE.out, Br⟩

end Go.Proofs.Ytgkelemfbmmgnaa
