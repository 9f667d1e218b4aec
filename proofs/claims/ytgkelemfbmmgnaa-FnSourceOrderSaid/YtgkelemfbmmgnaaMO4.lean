/- Some of the texts of this claim, joined in one file: CmpS, L17, Pt, Sl. -/
import Derived.Test.YtgkelemfbmmgnaaMO3
import Derived.Test.YtgkelemfbmmgnaaSrcI
import Derived.Test.YtgkelemfbmmgnaaSrcS
import Derived.Test.YtgkelemfbmmgnaaLawBs
import Derived.OwnWalk
/- The comparison of two sources: the program and the reference. Each theorem names its conditions. -/
namespace Go.Proofs.Ytgkelemfbmmgnaa
open Go.RowKit
set_option linter.unusedVariables false
set_option linter.unusedSimpArgs false

/-- The sign with which terms at a place count. -/
def sgnK (k : Nat) : Int := if k % 2 = 0 then 1 else -1
theorem sgnK_succ (k : Nat) : sgnK (k + 1) = -sgnK k := by
  unfold sgnK
  split <;> split <;> omega
theorem sgnK_even {k : Nat} (h : k % 2 = 0) : sgnK k = 1 := if_pos h
theorem sgnK_odd {k : Nat} (h : ¬ k % 2 = 0) : sgnK k = -1 := if_neg h
/-- What the terms at a place decide. -/
def decT (a b : Int × Bool) (k : Nat) : Option Int :=
  match a.2, b.2 with
  | false, false => some 0
  | false, true => some (sgnK k)
  | true, false => some (-sgnK k)
  | true, true => if a.1 < b.1 then some (-sgnK k) else if b.1 < a.1 then some (sgnK k) else none
def decF (s t : Src) (k : Nat) : Option Int := decT (termP s k) (termP t k) k
/-- The first decision among n places from k on. -/
def cmpG (f : Nat → Option Int) : Nat → Nat → Int × Int
  | 0, _ => (0, 10)
  | n + 1, k => match f k with | some c => (c, 0) | none => cmpG f n (k + 1)
def cmpP (s t : Src) (most : Nat) : Int × Int := cmpG (decF s t) most 0
theorem cmpG_some {f : Nat → Option Int} {m k : Nat} {c : Int} {r : Int × Int} (h : r = cmpG f (m - k) k) (hk : k < m) (hf : f k = some c) : (c, 0) = r := by
  rw [h, show m - k = (m - (k + 1)) + 1 by omega, cmpG, hf]
theorem cmpG_none {f : Nat → Option Int} {m k : Nat} {r : Int × Int} (h : r = cmpG f (m - k) k) (hk : k < m) (hf : f k = none) : r = cmpG f (m - (k + 1)) (k + 1) := by
  rw [h, show m - k = (m - (k + 1)) + 1 by omega, cmpG, hf]
theorem cmpG_end {f : Nat → Option Int} {m k : Nat} {r : Int × Int} (h : r = cmpG f (m - k) k) (hk : ¬ k < m) : ((0 : Int), (10 : Int)) = r := by
  rw [h, show m - k = 0 by omega, cmpG]
theorem at_eq {a1 : Option Addr} {n1 c1 : Nat} {a2 : Option Addr} {n2 c2 : Nat} {a3 : Option Addr} {n3 c3 : Nat} {a4 : Option Addr} {n4 c4 : Nat} {b : Bool} {s : Src} {k : Nat} {x : Int} {o : Bool} (he : termP s k = (x, o)) (w : World) (hs : ShS w a1 n1 c1 a2 n2 c2 a3 n3 c3 a4 n4 c4 b s) (h1 : k ≤ 1000000) :
    Calls Try.prog 49 #[.agg #[.slice a1 n1 c1, .slice a2 n2 c2, .slice a3 n3 c3, .slice a4 n4 c4, .bool b], .int .i64 k] w fun e w' => e = .returned (.tuple #[.int .i64 x, .bool o]) ∧ Bl w w' := by
  have := at_any a1 n1 c1 a2 n2 c2 a3 n3 c3 a4 n4 c4 b s k w hs (by omega) (by omega)
  rw [Int.toNat_natCast, he] at this
  exact this
theorem sterm_eqS {h p g : Value} {s : Src} {k : Nat} {x : Int} {o : Bool} (he : termP s k = (x, o)) (w : World) (b : Nat) (ha : SlS w h p g s) (hx : Bx w b #[h, p, g]) (ok : OkPer s) (h1 : k ≤ 1000000) :
    Calls Try.prog 52 #[.pointer (some ⟨b, 0, none⟩), .int .i64 k] w fun e w' => e = .returned (.tuple #[.int .i64 x, .bool o]) ∧ Bl w w' := by
  have := sterm_any h p g s k w b ha hx ok (by omega) (by omega)
  rw [Int.toNat_natCast, he] at this
  exact this
/-- -1, 0 or 1. -/
def cmpV (a b : Int) : Int := if a < b then -1 else if b < a then 1 else 0
set_option maxHeartbeats 400000 in
theorem cmpV_any (a b : Int) (w : World) : Calls Try.prog 81 #[.int .i64 a, .int .i64 b] w fun e w' => e = .returned (.int .i64 (cmpV a b)) ∧ w = w' := by
  by_cases h1 : a < b
  · go_enter Try.func81, Try.ntmps81
    go_wp2
    go_ret
    exact ⟨ret_int (by rw [cmpV, if_pos h1]), rfl⟩
  · by_cases h2 : b < a
    · go_enter Try.func81, Try.ntmps81
      go_wp2
      go_ret
      exact ⟨ret_int (by rw [cmpV, if_neg (by omega), if_pos h2]), rfl⟩
    · go_enter Try.func81, Try.ntmps81
      go_wp2
      go_ret
      exact ⟨ret_int (by rw [cmpV, if_neg (by omega), if_neg (by omega)]), rfl⟩
theorem cmp_eq {a b c : Int} (h : cmpV a b = c) (w : World) : Calls Try.prog 81 #[.int .i64 a, .int .i64 b] w fun e w' => e = .returned (.int .i64 c) ∧ w = w' :=
  (cmpV_any a b w).mono (by rintro e w' ⟨h1, rfl⟩; exact ⟨h ▸ h1, rfl⟩)

set_option maxRecDepth 100000 in
set_option maxHeartbeats 6400000 in
theorem compareBy_any (ax1 : Option Addr) (nx1 cx1 : Nat) (ax2 : Option Addr) (nx2 cx2 : Nat) (ax3 : Option Addr) (nx3 cx3 : Nat) (ax4 : Option Addr) (nx4 cx4 : Nat) (bx : Bool) (s : Src) (ay1 : Option Addr) (ny1 cy1 : Nat) (ay2 : Option Addr) (ny2 cy2 : Nat) (ay3 : Option Addr) (ny3 cy3 : Nat) (ay4 : Option Addr) (ny4 cy4 : Nat) (by_ : Bool) (t : Src) (m : Nat) (w : World) (hs : ShS w ax1 nx1 cx1 ax2 nx2 cx2 ax3 nx3 cx3 ax4 nx4 cx4 bx s) (ht : ShS w ay1 ny1 cy1 ay2 ny2 cy2 ay3 ny3 cy3 ay4 ny4 cy4 by_ t) (hm : m ≤ 1000000) :
    Calls Try.prog 41 #[.agg #[.slice ax1 nx1 cx1, .slice ax2 nx2 cx2, .slice ax3 nx3 cx3, .slice ax4 nx4 cx4, .bool bx], .agg #[.slice ay1 ny1 cy1, .slice ay2 ny2 cy2, .slice ay3 ny3 cy3, .slice ay4 ny4 cy4, .bool by_], .int .i64 m] w fun e w' => e = .returned (.tuple #[.int .i64 (cmpP s t m).1, .int .i64 (cmpP s t m).2]) ∧ Bl w w' := by
  have HS := Lib.hid hs
  have HT := Lib.hid ht
  clear hs ht
  go_enter Try.func41, Try.ntmps41
  go_wp2_with fail
  have B1 : Bl w ((w.alloc (.cells #[.slice ax1 nx1 cx1, .slice ax2 nx2 cx2, .slice ax3 nx3 cx3, .slice ax4 nx4 cx4, .bool bx] 71)).alloc (.cells #[.slice ay1 ny1 cy1, .slice ay2 ny2 cy2, .slice ay3 ny3 cy3, .slice ay4 ny4 cy4, .bool by_] 71)) := (bl_alloc (bl_alloc (bl_refl _) _) _)
  have xF_1 : Bx ((w.alloc (.cells #[.slice ax1 nx1 cx1, .slice ax2 nx2 cx2, .slice ax3 nx3 cx3, .slice ax4 nx4 cx4, .bool bx] 71)).alloc (.cells #[.slice ay1 ny1 cy1, .slice ay2 ny2 cy2, .slice ay3 ny3 cy3, .slice ay4 ny4 cy4, .bool by_] 71)) (w.heap.size) #[.slice ax1 nx1 cx1, .slice ax2 nx2 cx2, .slice ax3 nx3 cx3, .slice ax4 nx4 cx4, .bool bx] := ((Bx.new (b := w.heap.size) _ #[.slice ax1 nx1 cx1, .slice ax2 nx2 cx2, .slice ax3 nx3 cx3, .slice ax4 nx4 cx4, .bool bx] 71 (by first | rfl | simp)).alloc _)
  have xG_1 : Bx ((w.alloc (.cells #[.slice ax1 nx1 cx1, .slice ax2 nx2 cx2, .slice ax3 nx3 cx3, .slice ax4 nx4 cx4, .bool bx] 71)).alloc (.cells #[.slice ay1 ny1 cy1, .slice ay2 ny2 cy2, .slice ay3 ny3 cy3, .slice ay4 ny4 cy4, .bool by_] 71)) (w.heap.size + 1) #[.slice ay1 ny1 cy1, .slice ay2 ny2 cy2, .slice ay3 ny3 cy3, .slice ay4 ny4 cy4, .bool by_] := (Bx.new (b := w.heap.size + 1) _ #[.slice ay1 ny1 cy1, .slice ay2 ny2 cy2, .slice ay3 ny3 cy3, .slice ay4 ny4 cy4, .bool by_] 71 (by first | rfl | simp))
  have zz1 : w.heap.size + 2 ≤ ((w.alloc (.cells #[.slice ax1 nx1 cx1, .slice ax2 nx2 cx2, .slice ax3 nx3 cx3, .slice ax4 nx4 cx4, .bool bx] 71)).alloc (.cells #[.slice ay1 ny1 cy1, .slice ay2 ny2 cy2, .slice ay3 ny3 cy3, .slice ay4 ny4 cy4, .bool by_] 71)).heap.size := (by simp)
  generalize ((w.alloc (.cells #[.slice ax1 nx1 cx1, .slice ax2 nx2 cx2, .slice ax3 nx3 cx3, .slice ax4 nx4 cx4, .bool bx] 71)).alloc (.cells #[.slice ay1 ny1 cy1, .slice ay2 ny2 cy2, .slice ay3 ny3 cy3, .slice ay4 ny4 cy4, .bool by_] 71)) = w1 at *
  obtain ⟨cF_1, fF_1, zF_1⟩ := xF_1.out
  obtain ⟨cG_1, fG_1, zG_1⟩ := xG_1.out
  go_loopw [15, 8, 9, 10, 11, 12, 13] (fun s15 s8 s9 s10 s11 s12 s13 wr => ∃ k : Nat, s15 = .int .i64 k ∧ k ≤ m ∧ Hid (cmpP s t m = cmpG (decF s t) (m - k) k) ∧ Bx wr (w.heap.size) #[.slice ax1 nx1 cx1, .slice ax2 nx2 cx2, .slice ax3 nx3 cx3, .slice ax4 nx4 cx4, .bool bx] ∧ Bx wr (w.heap.size + 1) #[.slice ay1 ny1 cy1, .slice ay2 ny2 cy2, .slice ay3 ny3 cy3, .slice ay4 ny4 cy4, .bool by_] ∧ Bl w wr) (fun s15 _ _ _ _ _ _ _ => m - (intOf s15).toNat)
  case atStart =>
    exact ⟨0, rfl, Nat.zero_le _, Lib.hid rfl, xF_1, xG_1, B1⟩
  case round =>
    rcases hrel with ⟨k, rfl, hkm, hG, yF, yG, Br⟩
    clear cF_1 fF_1 zF_1 cG_1 fG_1 zG_1
    obtain ⟨cF, fF, zF⟩ := yF.out
    obtain ⟨cG, fG, zG⟩ := yG.out
    by_cases hk : k < m
    ·
      obtain ⟨⟨x, o⟩, hx⟩ : ∃ z, termP s k = z := ⟨_, rfl⟩
      obtain ⟨⟨y, u⟩, hy⟩ : ∃ z, termP t k = z := ⟨_, rfl⟩
      have HX := Lib.hid hx
      have HY := Lib.hid hy
      have HD := Lib.hid (show decF s t k = decT (x, o) (y, u) k by rw [decF, hx, hy])
      clear hx hy
      go_wp2_with fail
      refine (at_eq HX.out _ (HS.out.below Br) (by omega)).mono ?_
      rintro e wr1 ⟨rfl, hbr1⟩
      have Br1 : Bl w wr1 := bl_call Br hbr1
      have xF_r1 : Bx wr1 (w.heap.size) #[.slice ax1 nx1 cx1, .slice ax2 nx2 cx2, .slice ax3 nx3 cx3, .slice ax4 nx4 cx4, .bool bx] := yF.below hbr1
      have xG_r1 : Bx wr1 (w.heap.size + 1) #[.slice ay1 ny1 cy1, .slice ay2 ny2 cy2, .slice ay3 ny3 cy3, .slice ay4 ny4 cy4, .bool by_] := yG.below hbr1
      clear cF fF zF cG fG zG
      obtain ⟨cF_r1, fF_r1, zF_r1⟩ := xF_r1.out
      obtain ⟨cG_r1, fG_r1, zG_r1⟩ := xG_r1.out
      go_wp2_with fail
      refine (at_eq HY.out _ (HT.out.below Br1) (by omega)).mono ?_
      rintro e wr2 ⟨rfl, hbr2⟩
      have Br2 : Bl w wr2 := bl_call Br1 hbr2
      have xF_r2 : Bx wr2 (w.heap.size) #[.slice ax1 nx1 cx1, .slice ax2 nx2 cx2, .slice ax3 nx3 cx3, .slice ax4 nx4 cx4, .bool bx] := xF_r1.below hbr2
      have xG_r2 : Bx wr2 (w.heap.size + 1) #[.slice ay1 ny1 cy1, .slice ay2 ny2 cy2, .slice ay3 ny3 cy3, .slice ay4 ny4 cy4, .bool by_] := xG_r1.below hbr2
      clear cF_r1 fF_r1 zF_r1 cG_r1 fG_r1 zG_r1
      obtain ⟨cF_r2, fF_r2, zF_r2⟩ := xF_r2.out
      obtain ⟨cG_r2, fG_r2, zG_r2⟩ := xG_r2.out
      cases o with
      | false =>
        cases u with
        | false =>
          have HE := Lib.hid (cmpG_some hG.out hk (c := 0) (by rw [HD.out]; simp [decT, sgnK]))
          go_wp2
          go_ret2
          exact ⟨ret_ii HE.out, Br2⟩
        | true =>
          by_cases hpar : k % 2 = 0
          ·
            have hp : ((k : Int) % 2 == 1) = false := by simp; omega
            have HE := Lib.hid (cmpG_some hG.out hk (c := 1) (by rw [HD.out]; simp [decT, sgnK_even hpar]))
            clear hpar
            go_wp2
            go_ret2
            exact ⟨ret_ii HE.out, Br2⟩
          ·
            have hp : ((k : Int) % 2 == 1) = true := by simp; omega
            have HE := Lib.hid (cmpG_some hG.out hk (c := -(1)) (by rw [HD.out]; simp [decT, sgnK_odd hpar]))
            clear hpar
            go_wp2
            go_ret2
            exact ⟨ret_ii HE.out, Br2⟩
      | true =>
        cases u with
        | false =>
          by_cases hpar : k % 2 = 0
          ·
            have hp : ((k : Int) % 2 == 1) = false := by simp; omega
            have HE := Lib.hid (cmpG_some hG.out hk (c := -1) (by rw [HD.out]; simp [decT, sgnK_even hpar]))
            clear hpar
            go_wp2
            go_ret2
            exact ⟨ret_ii HE.out, Br2⟩
          ·
            have hp : ((k : Int) % 2 == 1) = true := by simp; omega
            have HE := Lib.hid (cmpG_some hG.out hk (c := -(-1)) (by rw [HD.out]; simp [decT, sgnK_odd hpar]))
            clear hpar
            go_wp2
            go_ret2
            exact ⟨ret_ii HE.out, Br2⟩
        | true =>
          rcases Int.lt_trichotomy x y with hxy | hxy | hxy
          ·
            by_cases hpar : k % 2 = 0
            ·
              have hp : ((k : Int) % 2 == 1) = false := by simp; omega
              have HE := Lib.hid (cmpG_some hG.out hk (c := -1) (by rw [HD.out]; simp [decT, sgnK_even hpar]; omega))
              clear hpar
              have HC := Lib.hid (show cmpV x y = -1 by unfold cmpV; omega)
              go_wp2_with fail
              refine (cmp_eq HC.out _).mono ?_
              rintro e wc ⟨rfl, rfl⟩
              go_wp2
              go_ret2
              exact ⟨ret_ii HE.out, Br2⟩
            ·
              have hp : ((k : Int) % 2 == 1) = true := by simp; omega
              have HE := Lib.hid (cmpG_some hG.out hk (c := -(-1)) (by rw [HD.out]; simp [decT, sgnK_odd hpar]; omega))
              clear hpar
              have HC := Lib.hid (show cmpV x y = -1 by unfold cmpV; omega)
              go_wp2_with fail
              refine (cmp_eq HC.out _).mono ?_
              rintro e wc ⟨rfl, rfl⟩
              go_wp2
              go_ret2
              exact ⟨ret_ii HE.out, Br2⟩
          ·
            subst hxy
            by_cases hpar : k % 2 = 0
            ·
              have hp : ((k : Int) % 2 == 1) = false := by simp; omega
              have HE := Lib.hid (cmpG_none hG.out hk (by rw [HD.out]; simp [decT]; try omega))
              clear hpar
              have HC := Lib.hid (show cmpV x x = 0 by unfold cmpV; omega)
              go_wp2_with fail
              refine (cmp_eq HC.out _).mono ?_
              rintro e wc ⟨rfl, rfl⟩
              go_wp2
              go_roundw
              case rel => exact ⟨k + 1, by go_num, by omega, HE, xF_r2, xG_r2, Br2⟩
              case measure => clear HE; (try clear HC); simp only [intOf, Int.toNat_natCast]; omega
            ·
              have hp : ((k : Int) % 2 == 1) = true := by simp; omega
              have HE := Lib.hid (cmpG_none hG.out hk (by rw [HD.out]; simp [decT]; try omega))
              clear hpar
              have HC := Lib.hid (show cmpV x x = 0 by unfold cmpV; omega)
              go_wp2_with fail
              refine (cmp_eq HC.out _).mono ?_
              rintro e wc ⟨rfl, rfl⟩
              go_wp2
              go_roundw
              case rel => exact ⟨k + 1, by go_num, by omega, HE, xF_r2, xG_r2, Br2⟩
              case measure => clear HE; (try clear HC); simp only [intOf, Int.toNat_natCast]; omega
          ·
            by_cases hpar : k % 2 = 0
            ·
              have hp : ((k : Int) % 2 == 1) = false := by simp; omega
              have HE := Lib.hid (cmpG_some hG.out hk (c := 1) (by rw [HD.out]; simp [decT, sgnK_even hpar, show ¬ x < y by omega, hxy]))
              clear hpar
              have HC := Lib.hid (show cmpV x y = 1 by unfold cmpV; omega)
              go_wp2_with fail
              refine (cmp_eq HC.out _).mono ?_
              rintro e wc ⟨rfl, rfl⟩
              go_wp2
              go_ret2
              exact ⟨ret_ii HE.out, Br2⟩
            ·
              have hp : ((k : Int) % 2 == 1) = true := by simp; omega
              have HE := Lib.hid (cmpG_some hG.out hk (c := -(1)) (by rw [HD.out]; simp [decT, sgnK_odd hpar, show ¬ x < y by omega, hxy]))
              clear hpar
              have HC := Lib.hid (show cmpV x y = 1 by unfold cmpV; omega)
              go_wp2_with fail
              refine (cmp_eq HC.out _).mono ?_
              rintro e wc ⟨rfl, rfl⟩
              go_wp2
              go_ret2
              exact ⟨ret_ii HE.out, Br2⟩
    ·
      have HE := Lib.hid (cmpG_end hG.out hk)
      go_wp2
      go_ret2
      exact ⟨ret_ii HE.out, Br⟩

set_option maxRecDepth 100000 in
set_option maxHeartbeats 6400000 in
theorem scompare_any (hx px gx : Value) (s : Src) (hy py gy : Value) (t : Src) (m : Nat) (w : World) (bx by_ : Nat) (hs : SlS w hx px gx s) (ht : SlS w hy py gy t) (Bx0 : Bx w bx #[hx, px, gx]) (By0 : Bx w by_ #[hy, py, gy]) (os : OkPer s) (ot : OkPer t) (ks : ∀ y ∈ s.H, y ≤ 2000000000) (kt : ∀ y ∈ t.H, y ≤ 2000000000) (hm : m ≤ 1000000) :
    Calls Try.prog 44 #[.pointer (some ⟨bx, 0, none⟩), .pointer (some ⟨by_, 0, none⟩), .int .i64 m] w fun e w' => e = .returned (.tuple #[.int .i64 (cmpP (plainS s) (plainS t) m).1, .int .i64 (cmpP (plainS s) (plainS t) m).2]) ∧ Bl w w' := by
  have xX_0 := Bx0
  have xY_0 := By0
  obtain ⟨cX_0, fX_0, zX_0⟩ := xX_0.out
  obtain ⟨cY_0, fY_0, zY_0⟩ := xY_0.out
  have HS := Lib.hid hs
  have HT := Lib.hid ht
  clear hs ht
  go_enter Try.func44, Try.ntmps44
  go_wp2_with fail
  refine (plainSrc_any hx px gx s _ bx HS.out xX_0 os ks).mono ?_
  rintro e w1 ⟨u1, v1, z1, u2, v2, z2, u3, v3, z3, rfl, HA, hb1⟩
  have B1 : Bl w w1 := bl_call (bl_refl _) hb1
  have xX_1 : Bx w1 (bx) #[hx, px, gx] := xX_0.below hb1
  have xY_1 : Bx w1 (by_) #[hy, py, gy] := xY_0.below hb1
  clear cX_0 fX_0 zX_0 cY_0 fY_0 zY_0
  obtain ⟨cX_1, fX_1, zX_1⟩ := xX_1.out
  obtain ⟨cY_1, fY_1, zY_1⟩ := xY_1.out
  have HA := Lib.hid HA
  go_wp2_with fail
  refine (plainSrc_any hy py gy t _ by_ (HT.out.below (bl_alloc B1 _)) (xY_1.alloc _) ot kt).mono ?_
  rintro e w2 ⟨p1, q1, r1, p2, q2, r2, p3, q3, r3, rfl, HB, hb2⟩
  have B2 : Bl w w2 := bl_call (bl_alloc B1 _) hb2
  have xX_2 : Bx w2 (bx) #[hx, px, gx] := (xX_1.alloc _).below hb2
  have xY_2 : Bx w2 (by_) #[hy, py, gy] := (xY_1.alloc _).below hb2
  have xA_2 : Bx w2 (w1.heap.size) #[.slice u1 v1 z1, .slice u2 v2 z2, .slice u3 v3 z3] := (Bx.new (b := w1.heap.size) _ #[.slice u1 v1 z1, .slice u2 v2 z2, .slice u3 v3 z3] 26 (by first | rfl | simp)).below hb2
  clear cX_1 fX_1 zX_1 cY_1 fY_1 zY_1
  obtain ⟨cX_2, fX_2, zX_2⟩ := xX_2.out
  obtain ⟨cY_2, fY_2, zY_2⟩ := xY_2.out
  obtain ⟨cA_2, fA_2, zA_2⟩ := xA_2.out
  have HA := Lib.hid ((HA.out.alloc _).below hb2)
  have HB := Lib.hid (HB.alloc (.cells #[.slice p1 q1 r1, .slice p2 q2 r2, .slice p3 q3 r3] 26))
  have HA := Lib.hid (HA.out.alloc (.cells #[.slice p1 q1 r1, .slice p2 q2 r2, .slice p3 q3 r3] 26))
  go_wp2_with fail
  have B3 : Bl w (w2.alloc (.cells #[.slice p1 q1 r1, .slice p2 q2 r2, .slice p3 q3 r3] 26)) := (bl_alloc B2 _)
  have xX_3 : Bx (w2.alloc (.cells #[.slice p1 q1 r1, .slice p2 q2 r2, .slice p3 q3 r3] 26)) (bx) #[hx, px, gx] := (xX_2.alloc _)
  have xY_3 : Bx (w2.alloc (.cells #[.slice p1 q1 r1, .slice p2 q2 r2, .slice p3 q3 r3] 26)) (by_) #[hy, py, gy] := (xY_2.alloc _)
  have xA_3 : Bx (w2.alloc (.cells #[.slice p1 q1 r1, .slice p2 q2 r2, .slice p3 q3 r3] 26)) (w1.heap.size) #[.slice u1 v1 z1, .slice u2 v2 z2, .slice u3 v3 z3] := (xA_2.alloc _)
  have xB_3 : Bx (w2.alloc (.cells #[.slice p1 q1 r1, .slice p2 q2 r2, .slice p3 q3 r3] 26)) (w2.heap.size) #[.slice p1 q1 r1, .slice p2 q2 r2, .slice p3 q3 r3] := (Bx.new (b := w2.heap.size) _ #[.slice p1 q1 r1, .slice p2 q2 r2, .slice p3 q3 r3] 26 (by first | rfl | simp))
  have zz3 : w2.heap.size + 1 ≤ (w2.alloc (.cells #[.slice p1 q1 r1, .slice p2 q2 r2, .slice p3 q3 r3] 26)).heap.size := (by simp)
  clear cX_2 fX_2 zX_2 cY_2 fY_2 zY_2 cA_2 fA_2 zA_2
  generalize (w2.alloc (.cells #[.slice p1 q1 r1, .slice p2 q2 r2, .slice p3 q3 r3] 26)) = w3 at *
  obtain ⟨cX_3, fX_3, zX_3⟩ := xX_3.out
  obtain ⟨cY_3, fY_3, zY_3⟩ := xY_3.out
  obtain ⟨cA_3, fA_3, zA_3⟩ := xA_3.out
  obtain ⟨cB_3, fB_3, zB_3⟩ := xB_3.out
  go_loopw [11, 10] (fun s11 s10 wr => ∃ k : Nat, s11 = .int .i64 k ∧ s10 = .int .i64 (sgnK k) ∧ k ≤ m ∧ Hid (cmpP (plainS s) (plainS t) m = cmpG (decF (plainS s) (plainS t)) (m - k) k) ∧ Bx wr (w1.heap.size) #[.slice u1 v1 z1, .slice u2 v2 z2, .slice u3 v3 z3] ∧ Bx wr (w2.heap.size) #[.slice p1 q1 r1, .slice p2 q2 r2, .slice p3 q3 r3] ∧ SlS wr (.slice u1 v1 z1) (.slice u2 v2 z2) (.slice u3 v3 z3) (plainS s) ∧ SlS wr (.slice p1 q1 r1) (.slice p2 q2 r2) (.slice p3 q3 r3) (plainS t) ∧ Bl w wr) (fun s11 _ _ => m - (intOf s11).toNat)
  case atStart =>
    exact ⟨0, rfl, rfl, Nat.zero_le _, Lib.hid rfl, xA_3, xB_3, HA.out, HB.out, B3⟩
  case round =>
    rcases hrel with ⟨k, rfl, rfl, hkm, hG, yA, yB, HA2, HB2, Br⟩
    have HA2 := Lib.hid HA2
    have HB2 := Lib.hid HB2
    clear cX_3 fX_3 zX_3 cY_3 fY_3 zY_3 cA_3 fA_3 zA_3 cB_3 fB_3 zB_3
    obtain ⟨cA, fA, zA⟩ := yA.out
    obtain ⟨cB, fB, zB⟩ := yB.out
    have hsg : -1 ≤ sgnK k ∧ sgnK k ≤ 1 := by unfold sgnK; split <;> omega
    by_cases hk : k < m
    ·
      obtain ⟨⟨x, o⟩, hx⟩ : ∃ z, termP (plainS s) k = z := ⟨_, rfl⟩
      obtain ⟨⟨y, u⟩, hy⟩ : ∃ z, termP (plainS t) k = z := ⟨_, rfl⟩
      have HX := Lib.hid hx
      have HY := Lib.hid hy
      have HD := Lib.hid (show decF (plainS s) (plainS t) k = decT (x, o) (y, u) k by rw [decF, hx, hy])
      clear hx hy
      go_wp2_with fail
      refine (sterm_eqS HX.out _ _ HA2.out yA os.plain (by omega)).mono ?_
      rintro e wr1 ⟨rfl, hbr1⟩
      have Br1 : Bl w wr1 := bl_call Br hbr1
      have xA_r1 : Bx wr1 (w1.heap.size) #[.slice u1 v1 z1, .slice u2 v2 z2, .slice u3 v3 z3] := yA.below hbr1
      have xB_r1 : Bx wr1 (w2.heap.size) #[.slice p1 q1 r1, .slice p2 q2 r2, .slice p3 q3 r3] := yB.below hbr1
      clear cA fA zA cB fB zB
      obtain ⟨cA_r1, fA_r1, zA_r1⟩ := xA_r1.out
      obtain ⟨cB_r1, fB_r1, zB_r1⟩ := xB_r1.out
      go_wp2_with fail
      refine (sterm_eqS HY.out _ _ (HB2.out.below hbr1) xB_r1 ot.plain (by omega)).mono ?_
      rintro e wr2 ⟨rfl, hbr2⟩
      have Br2 : Bl w wr2 := bl_call Br1 hbr2
      have xA_r2 : Bx wr2 (w1.heap.size) #[.slice u1 v1 z1, .slice u2 v2 z2, .slice u3 v3 z3] := xA_r1.below hbr2
      have xB_r2 : Bx wr2 (w2.heap.size) #[.slice p1 q1 r1, .slice p2 q2 r2, .slice p3 q3 r3] := xB_r1.below hbr2
      clear cA_r1 fA_r1 zA_r1 cB_r1 fB_r1 zB_r1
      obtain ⟨cA_r2, fA_r2, zA_r2⟩ := xA_r2.out
      obtain ⟨cB_r2, fB_r2, zB_r2⟩ := xB_r2.out
      cases o with
      | false =>
        cases u with
        | false =>
          have HE := Lib.hid (cmpG_some hG.out hk (c := 0) (by rw [HD.out]; simp [decT]))
          go_wp2
          go_ret2
          exact ⟨ret_ii HE.out, Br2⟩
        | true =>
          have HE := Lib.hid (cmpG_some hG.out hk (c := sgnK k) (by rw [HD.out]; simp [decT]))
          go_wp2
          go_ret2
          exact ⟨ret_ii HE.out, Br2⟩
      | true =>
        cases u with
        | false =>
          have HE := Lib.hid (cmpG_some hG.out hk (c := -sgnK k) (by rw [HD.out]; simp [decT]))
          go_wp2
          go_ret2
          exact ⟨ret_ii HE.out, Br2⟩
        | true =>
          rcases Int.lt_trichotomy x y with hxy | hxy | hxy
          ·
            have HE := Lib.hid (cmpG_some hG.out hk (c := -sgnK k) (by rw [HD.out]; simp [decT, hxy]))
            go_wp2
            go_ret2
            exact ⟨ret_ii HE.out, Br2⟩
          ·
            subst hxy
            have HE := Lib.hid (cmpG_none hG.out hk (by rw [HD.out]; simp [decT]))
            have hsn := Lib.hid (sgnK_succ k)
            go_wp2
            go_roundw
            case rel => exact ⟨k + 1, by go_num, by rw [hsn.out], by omega, HE, xA_r2, xB_r2, (HA2.out.below hbr1).below hbr2, (HB2.out.below hbr1).below hbr2, Br2⟩
            case measure => clear HE; simp only [intOf, Int.toNat_natCast]; omega
          ·
            have hyx : ¬ x < y := by omega
            have HE := Lib.hid (cmpG_some hG.out hk (c := sgnK k) (by rw [HD.out]; simp [decT, hxy, hyx]))
            go_wp2
            go_ret2
            exact ⟨ret_ii HE.out, Br2⟩
    ·
      have HE := Lib.hid (cmpG_end hG.out hk)
      go_wp2
      go_ret2
      exact ⟨ret_ii HE.out, Br⟩

end Go.Proofs.Ytgkelemfbmmgnaa

/- Laws on comparisons of sources: what they share. Each theorem names its conditions. -/
namespace Go.Proofs.Ytgkelemfbmmgnaa
open Go.RowKit
set_option linter.unusedVariables false
set_option linter.unusedSimpArgs false

theorem ivalid_eqL {h p g : Value} {s : Src} {b : Bool} (e : okSrc s = b) (w : World) (ha : SlS w h p g s) : Calls Try.prog 39 #[.agg #[h, p, g]] w fun e w' => e = .returned (.bool b) ∧ Bl w w' := e ▸ ivalid_any h p g s w ha
theorem svalid_eqL {h p g : Value} {s : Src} {b : Bool} (e : okSrc s = b) (w : World) (x : Nat) (ha : SlS w h p g s) (hx : Bx w x #[h, p, g]) : Calls Try.prog 50 #[.pointer (some ⟨x, 0, none⟩)] w fun e w' => e = .returned (.bool b) ∧ Bl w w' := e ▸ svalid_any h p g s w x ha hx
theorem within_eq {n lo hi : Int} {b : Bool} (h : inB n lo hi = b) (w : World) : Calls Try.prog 67 #[.int .i64 n, .int .i64 lo, .int .i64 hi] w fun e w' => e = .returned (.bool b) ∧ w = w' := h ▸ within_any n lo hi w
theorem in_eq {n lo hi : Int} {b : Bool} (h : inB n lo hi = b) (w : World) : Calls Try.prog 73 #[.int .i64 n, .int .i64 lo, .int .i64 hi] w fun e w' => e = .returned (.bool b) ∧ w = w' := h ▸ in_any n lo hi w
set_option maxHeartbeats 400000 in
theorem isMost_eq {m : Int} {b : Bool} (h : inB m 1 1000 = b) (w : World) : Calls Try.prog 40 #[.int .i64 m] w fun e w' => e = .returned (.bool b) ∧ w = w' := by
  have H := Lib.hid h
  clear h
  go_enter Try.func40, Try.ntmps40
  go_wp2_with fail
  refine (within_eq H.out _).mono ?_
  rintro e w' ⟨rfl, rfl⟩
  go_wp2
  go_ret
  exact ⟨rfl, rfl⟩
theorem okSrc_H {s : Src} (h : okSrc s = true) : OkSrc s := okSrc_iff.1 h
/-- The code of two sources and a number of terms. -/
noncomputable def code17 (s t : Src) (m : Int) : Int := if okSrc s && okSrc t then (if inB m 1 1000 then 0 else 2) else 1
theorem ret_ii2 {r : Int × Int} {x b : Int} (h : r = (x, b)) : Ending.returned (.tuple #[.int .i64 x, .int .i64 b]) = .returned (.tuple #[.int .i64 r.1, .int .i64 r.2]) := by subst h; rfl

set_option maxRecDepth 100000 in
set_option maxHeartbeats 1600000 in
theorem code17_any (h p g : Value) (s : Src) (h' p' g' : Value) (t : Src) (m : Int) (w : World) (x y : Nat) (hs : SlS w h p g s) (ht : SlS w h' p' g' t) (hx : Bx w x #[h, p, g]) (hy : Bx w y #[h', p', g']) :
    Calls Try.prog 43 #[.pointer (some ⟨x, 0, none⟩), .pointer (some ⟨y, 0, none⟩), .int .i64 m] w fun e w' => e = .returned (.int .i64 (code17 s t m)) ∧ Bl w w' := by
  cases e1 : okSrc s with
  | false =>
    have HR := Lib.hid (show (1 : Int) = code17 s t m by simp [code17, e1])
    have E1 := Lib.hid e1
    clear e1
    go_enter Try.func43, Try.ntmps43
    go_wp2_with fail
    refine (svalid_eqL E1.out _ x hs hx).mono ?_
    rintro e w1 ⟨rfl, hb1⟩
    have B1 : Bl w w1 := bl_call (bl_refl _) hb1
    go_wp2
    go_ret
    exact ⟨ret_int HR.out, B1⟩
  | true =>
    cases e2 : okSrc t with
    | false =>
      have HR := Lib.hid (show (1 : Int) = code17 s t m by simp [code17, e1, e2])
      have E1 := Lib.hid e1
      clear e1
      have E2 := Lib.hid e2
      clear e2
      go_enter Try.func43, Try.ntmps43
      go_wp2_with fail
      refine (svalid_eqL E1.out _ x hs hx).mono ?_
      rintro e w1 ⟨rfl, hb1⟩
      have B1 : Bl w w1 := bl_call (bl_refl _) hb1
      go_wp2_with fail
      refine (svalid_eqL E2.out _ y (ht.below hb1) (hy.below hb1)).mono ?_
      rintro e w2 ⟨rfl, hb2⟩
      have B2 : Bl w w2 := bl_call B1 hb2
      go_wp2
      go_ret
      exact ⟨ret_int HR.out, B2⟩
    | true =>
      cases e3 : inB m 1 1000 with
      | false =>
        have HR := Lib.hid (show (2 : Int) = code17 s t m by simp [code17, e1, e2, e3])
        have E1 := Lib.hid e1
        clear e1
        have E2 := Lib.hid e2
        clear e2
        have E3 := Lib.hid e3
        clear e3
        go_enter Try.func43, Try.ntmps43
        go_wp2_with fail
        refine (svalid_eqL E1.out _ x hs hx).mono ?_
        rintro e w1 ⟨rfl, hb1⟩
        have B1 : Bl w w1 := bl_call (bl_refl _) hb1
        go_wp2_with fail
        refine (svalid_eqL E2.out _ y (ht.below hb1) (hy.below hb1)).mono ?_
        rintro e w2 ⟨rfl, hb2⟩
        have B2 : Bl w w2 := bl_call B1 hb2
        go_wp2_with fail
        refine (in_eq E3.out _).mono ?_
        rintro e w9 ⟨rfl, rfl⟩
        go_wp2
        go_ret
        exact ⟨ret_int HR.out, B2⟩
      | true =>
        have HR := Lib.hid (show (0 : Int) = code17 s t m by simp [code17, e1, e2, e3])
        have E1 := Lib.hid e1
        clear e1
        have E2 := Lib.hid e2
        clear e2
        have E3 := Lib.hid e3
        clear e3
        go_enter Try.func43, Try.ntmps43
        go_wp2_with fail
        refine (svalid_eqL E1.out _ x hs hx).mono ?_
        rintro e w1 ⟨rfl, hb1⟩
        have B1 : Bl w w1 := bl_call (bl_refl _) hb1
        go_wp2_with fail
        refine (svalid_eqL E2.out _ y (ht.below hb1) (hy.below hb1)).mono ?_
        rintro e w2 ⟨rfl, hb2⟩
        have B2 : Bl w w2 := bl_call B1 hb2
        go_wp2_with fail
        refine (in_eq E3.out _).mono ?_
        rintro e w9 ⟨rfl, rfl⟩
        go_wp2
        go_ret
        exact ⟨ret_int HR.out, B2⟩

theorem code17_zero {s t : Src} {m : Int} (h : code17 s t m = 0) : okSrc s = true ∧ okSrc t = true ∧ 1 ≤ m ∧ m ≤ 1000 := by
  unfold code17 at h
  cases e1 : okSrc s <;> cases e2 : okSrc t <;> cases e3 : inB m 1 1000 <;> simp [e1, e2, e3] at h
  have := inB_iff.1 e3
  exact ⟨rfl, rfl, this.1, this.2⟩

end Go.Proofs.Ytgkelemfbmmgnaa

/- Sources behind pointers into a row: the reference's check, short form, comparison. Each theorem names its conditions. -/
namespace Go.Proofs.Ytgkelemfbmmgnaa
open Go.RowKit
set_option linter.unusedVariables false
set_option linter.unusedSimpArgs false

/-- Three cells that follow each other: a source in a row. -/
def P3 (w : World) (b o : Nat) (h p g : Value) : Prop := w.cell? ⟨b, o, none⟩ = some h ∧ w.cell? ⟨b, o + 1, none⟩ = some p ∧ w.cell? ⟨b, o + 2, none⟩ = some g
theorem P3.out {w : World} {b o : Nat} {h p g : Value} (x : P3 w b o h p g) : (w.cell? ⟨b, o, none⟩ = some h ∧ w.cell? ⟨b, o + 1, none⟩ = some p ∧ w.cell? ⟨b, o + 2, none⟩ = some g) ∧ True ∧ b < w.heap.size := ⟨x, trivial, cell_lt x.1⟩
theorem P3.below {w w' : World} {b o : Nat} {h p g : Value} (x : P3 w b o h p g) (hb : Bl w w') : P3 w' b o h p g := by
  have hl := cell_lt x.1
  exact ⟨by rw [(bcell hb).1 _ _ hl]; exact x.1, by rw [(bcell hb).1 _ _ hl]; exact x.2.1, by rw [(bcell hb).1 _ _ hl]; exact x.2.2⟩
theorem P3.alloc {w : World} {b o : Nat} {h p g : Value} (x : P3 w b o h p g) (t : Obj) : P3 (w.alloc t) b o h p g := x.below (bl_alloc (bl_refl _) t)
theorem P3.drew {w : World} {b o : Nat} {h p g : Value} (x : P3 w b o h p g) : P3 w.drew b o h p g := x
set_option maxRecDepth 100000 in
set_option maxHeartbeats 1600000 in
theorem svalid_noP (h p g : Value) (s : Src) (w : World) (b o : Nat) (ha : SlS w h p g s) (hx : P3 w b o h p g) (c : ¬ Shape s) :
    Calls Try.prog 50 #[.pointer (some ⟨b, o, none⟩)] w fun e w' => e = .returned (.bool (okSrc s)) ∧ Bl w w' := by
  have l1 := ha.1.len
  have l2 := ha.2.1.len
  have l3 := ha.2.2.len
  obtain ⟨a1, a2, a3⟩ := ha
  obtain ⟨ah, ch, rfl, hch⟩ := a1.form
  obtain ⟨ap, cp, rfl, hcp⟩ := a2.form
  obtain ⟨ag, cg, rfl, hcg⟩ := a3.form
  obtain ⟨⟨cx, cx1, cx2⟩, fx, zx⟩ := hx.out
  have HN := Lib.hid (okS_shape c)
  by_cases c1 : s.H.length ≤ 30
  · have d1 : decide (30 < (s.H.length : Int)) = false := by simp; omega
    by_cases c2 : s.P.length ≤ 30
    · have d2 : decide (30 < (s.P.length : Int)) = false := by simp; omega
      by_cases c4 : s.G.length = s.P.length
      · have d4 : ((s.G.length : Int) != (s.P.length : Int)) = false := by simp; omega
        have d3 : ((s.H.length : Int) + (s.P.length : Int) == 0) = true := by
          have : ¬ 0 < s.H.length + s.P.length := fun q => c ⟨c1, c2, q, c4⟩
          simp; omega
        clear c c4
        go_enter Try.func50, Try.ntmps50
        go_wp2
        go_quiet (fail)
        go_wp2
        go_ret
        exact ⟨ret_bool HN.out, Drawn.below ⟨_, rfl⟩ _⟩
      · have d4 : ((s.G.length : Int) != (s.P.length : Int)) = true := by simp; omega
        clear c c4
        go_enter Try.func50, Try.ntmps50
        go_wp2
        go_quiet (fail)
        go_wp2
        go_ret
        exact ⟨ret_bool HN.out, Drawn.below ⟨_, rfl⟩ _⟩
    · have d2 : decide (30 < (s.P.length : Int)) = true := by simp; omega
      clear c
      go_enter Try.func50, Try.ntmps50
      go_wp2
      go_quiet (fail)
      go_wp2
      go_ret
      exact ⟨ret_bool HN.out, Drawn.below ⟨_, rfl⟩ _⟩
  · have d1 : decide (30 < (s.H.length : Int)) = true := by simp; omega
    clear c
    go_enter Try.func50, Try.ntmps50
    go_wp2
    go_quiet (fail)
    go_wp2
    go_ret
    exact ⟨ret_bool HN.out, Drawn.below ⟨_, rfl⟩ _⟩
set_option maxRecDepth 100000 in
set_option maxHeartbeats 3200000 in
theorem svalid_yesP (h p g : Value) (s : Src) (w : World) (b o : Nat) (ha : SlS w h p g s) (hx : P3 w b o h p g) (c : Shape s) :
    Calls Try.prog 50 #[.pointer (some ⟨b, o, none⟩)] w fun e w' => e = .returned (.bool (okSrc s)) ∧ Bl w w' := by
  have l1 := ha.1.len
  have l2 := ha.2.1.len
  have l3 := ha.2.2.len
  obtain ⟨a1, a2, a3⟩ := ha
  obtain ⟨ah, ch, rfl, hch⟩ := a1.form
  obtain ⟨ap, cp, rfl, hcp⟩ := a2.form
  obtain ⟨ag, cg, rfl, hcg⟩ := a3.form
  obtain ⟨⟨cx, cx1, cx2⟩, fx, zx⟩ := hx.out
  obtain ⟨c1, c2, c3, c4⟩ := c
  have d1 : decide (30 < (s.H.length : Int)) = false := by simp; omega
  have d2 : decide (30 < (s.P.length : Int)) = false := by simp; omega
  have c4' : ((s.G.length : Int) != (s.P.length : Int)) = false := by simp; omega
  have c3' : ((s.H.length : Int) + (s.P.length : Int) == 0) = false := by simp; omega
  have C4 := Lib.hid c4
  have C3 := Lib.hid c3
  have c4'' : s.P.length ≤ s.G.length := by omega
  clear c4 c3
  go_enter Try.func50, Try.ntmps50
  go_wp2
  go_quiet (fail)
  rename_i nq
  have hBw : Bl w (w.drewN nq) := Drawn.below ⟨_, rfl⟩ _
  go_wp2
  go_loop [3] (fun i => ∃ k : Nat, k ≤ s.H.length ∧ i = .int .i64 k ∧ (∀ (j : Nat) (x : Int), j < k → s.H[j]? = some x → lowAt j ≤ x ∧ x ≤ 1000000000)) (fun i => s.H.length - (intOf i).toNat)
  case atStart => exact ⟨0, Nat.zero_le _, rfl, fun j x hj => absurd hj (by omega)⟩
  case round =>
    obtain ⟨k, hk, rfl, hal⟩ := hrel
    have HAL := Lib.hid hal
    clear hal
    by_cases hlt : k < s.H.length
    · obtain ⟨b1, o1, rfl, x, hxx, hcx, hrx⟩ := a1.cellAt hBw hlt
      have HX := Lib.hid hxx
      clear hxx
      cases e : inB x (lowAt k) 1000000000 with
      | false =>
        have HN := Lib.hid (okS_no (s := s) fun q => inB_not e (q.hd k x HX.out))
        by_cases hk0 : k = 0
        · have e' : inB x (-1000000000) 1000000000 = false := by rw [← e, lowAt, if_pos hk0]
          have hk1 : ((k : Int) == 0) = true := by simp [hk0]
          clear e hk0
          go_wp2_with (go_at_call 73; refine (in_any _ _ _ _).mono ?_; rintro e w' ⟨rfl, rfl⟩)
          go_ret
          exact ⟨ret_bool HN.out, hBw⟩
        · have e' : inB x 1 1000000000 = false := by rw [← e, lowAt, if_neg hk0]
          have hk1 : ((k : Int) == 0) = false := by simp; omega
          clear e hk0
          go_wp2_with (go_at_call 73; refine (in_any _ _ _ _).mono ?_; rintro e w' ⟨rfl, rfl⟩)
          go_ret
          exact ⟨ret_bool HN.out, hBw⟩
      | true =>
        have HT := Lib.hid (upto_succ HAL.out HX.out (inB_iff.1 e))
        by_cases hk0 : k = 0
        · have e' : inB x (-1000000000) 1000000000 = true := by rw [← e, lowAt, if_pos hk0]
          have hk1 : ((k : Int) == 0) = true := by simp [hk0]
          clear e hk0
          go_wp2_with (go_at_call 73; refine (in_any _ _ _ _).mono ?_; rintro e w' ⟨rfl, rfl⟩)
          go_round
          case rel => exact ⟨k + 1, by omega, by go_num, HT.out⟩
          case measure => simp [intOf]; omega
        · have e' : inB x 1 1000000000 = true := by rw [← e, lowAt, if_neg hk0]
          have hk1 : ((k : Int) == 0) = false := by simp; omega
          clear e hk0
          go_wp2_with (go_at_call 73; refine (in_any _ _ _ _).mono ?_; rintro e w' ⟨rfl, rfl⟩)
          go_round
          case rel => exact ⟨k + 1, by omega, by go_num, HT.out⟩
          case measure => simp [intOf]; omega
    · have HD := Lib.hid (upto_all HAL.out (by omega))
      go_wp2
      go_loop [5] (fun i => ∃ k : Nat, k ≤ s.P.length ∧ i = .int .i64 k ∧ (∀ (j : Nat) (x : Int), j < k → s.P[j]? = some x → 1 ≤ x ∧ x ≤ 1000000) ∧ (∀ (j : Nat) (x : Int), j < k → s.G[j]? = some x → 0 ≤ x ∧ x ≤ 1000000)) (fun i => s.P.length - (intOf i).toNat)
      case atStart => exact ⟨0, Nat.zero_le _, rfl, fun j x hj => absurd hj (by omega), fun j x hj => absurd hj (by omega)⟩
      case round =>
        obtain ⟨m, hm, rfl, hal, hal2⟩ := hrel
        have HAL := Lib.hid hal
        have HAL2 := Lib.hid hal2
        clear hal hal2
        by_cases hlt : m < s.P.length
        · obtain ⟨b1, o1, rfl, x, hxx, hcx, hrx⟩ := a2.cellAt hBw hlt
          obtain ⟨b2, o2, rfl, y, hy, hcy, hry⟩ := a3.cellAt hBw (show m < s.G.length by omega)
          have HX := Lib.hid hxx
          have HY := Lib.hid hy
          have hmg : m < s.G.length := by omega
          clear hxx hy
          cases e : inB x 1 1000000 with
          | false =>
            have HN := Lib.hid (okS_no (s := s) fun q => inB_not e (q.per m x HX.out))
            go_wp2_with (go_at_call 73; refine (in_any _ _ _ _).mono ?_; rintro e w' ⟨rfl, rfl⟩)
            go_ret
            exact ⟨ret_bool HN.out, hBw⟩
          | true =>
            cases e2 : inB y 0 1000000 with
            | false =>
              have HN := Lib.hid (okS_no (s := s) fun q => inB_not e2 (q.gr m y HY.out))
              go_wp2_with (go_at_call 73; refine (in_any _ _ _ _).mono ?_; rintro e w' ⟨rfl, rfl⟩)
              go_ret
              exact ⟨ret_bool HN.out, hBw⟩
            | true =>
              have HT := Lib.hid (upto_succ HAL.out HX.out (inB_iff.1 e))
              have HT2 := Lib.hid (upto_succ HAL2.out HY.out (inB_iff.1 e2))
              go_wp2_with (go_at_call 73; refine (in_any _ _ _ _).mono ?_; rintro e w' ⟨rfl, rfl⟩)
              go_round
              case rel => exact ⟨m + 1, by omega, by go_num, HT.out, HT2.out⟩
              case measure => simp [intOf]; omega
        · have HP := Lib.hid (upto_all HAL.out (by omega))
          have HG := Lib.hid (upto_all HAL2.out (by have := C4.out; omega))
          go_wp2
          go_ret
          exact ⟨ret_bool (okS_yes ⟨c1, c2, C3.out, C4.out, HD.out, HP.out, HG.out⟩), hBw⟩
theorem svalid_anyP (h p g : Value) (s : Src) (w : World) (b o : Nat) (ha : SlS w h p g s) (hx : P3 w b o h p g) :
    Calls Try.prog 50 #[.pointer (some ⟨b, o, none⟩)] w fun e w' => e = .returned (.bool (okSrc s)) ∧ Bl w w' := by
  by_cases c : Shape s
  · exact svalid_yesP h p g s w b o ha hx c
  · exact svalid_noP h p g s w b o ha hx c
set_option maxRecDepth 100000 in
set_option maxHeartbeats 6400000 in
theorem plainSrc_anyP (h p g : Value) (s : Src) (w : World) (b o : Nat) (hs : SlS w h p g s) (hx : P3 w b o h p g) (ok : OkPer s) (hbd : ∀ y ∈ s.H, y ≤ 2000000000) :
    Calls Try.prog 51 #[.pointer (some ⟨b, o, none⟩)] w fun e w' => ∃ a1 n1 c1 a2 n2 c2 a3 n3 c3, e = .returned (.agg #[.slice a1 n1 c1, .slice a2 n2 c2, .slice a3 n3 c3]) ∧ SlS w' (.slice a1 n1 c1) (.slice a2 n2 c2) (.slice a3 n3 c3) (plainS s) ∧ Bl w w' := by
  have l1 := ok.h30
  have l2 := ok.p30
  have l3 : s.G.length ≤ 30 := by rw [ok.gp]; exact ok.p30
  go_enter Try.func51, Try.ntmps51
  go_wp2_with fail
  have BW := bl_alloc (bl_refl w) (.cells #[.slice none 0 0, .slice none 0 0, .slice none 0 0] 26)
  have hr0 := Bx.new (b := w.heap.size) w #[.slice none 0 0, .slice none 0 0, .slice none 0 0] 26 rfl
  have hx := hx.alloc (.cells #[.slice none 0 0, .slice none 0 0, .slice none 0 0] 26)
  have hs := hs.alloc (.cells #[.slice none 0 0, .slice none 0 0, .slice none 0 0] 26)
  generalize w.alloc (.cells #[.slice none 0 0, .slice none 0 0, .slice none 0 0] 26) = w0 at *
  obtain ⟨⟨cx, cx1, cx2⟩, fx, zx⟩ := hx.out
  go_cut [3] (fun s3 wx => ∃ q a1 c1 a2 c2 a3 c3, s3 = .pointer (some ⟨q, 0, none⟩) ∧ Bx wx q #[.slice a1 s.H.length c1, .slice a2 s.P.length c2, .slice a3 s.G.length c3] ∧ Own wx w0.heap.size (.slice a1 s.H.length c1) s.H ∧ Own wx w0.heap.size (.slice a2 s.P.length c2) s.P ∧ Own wx w0.heap.size (.slice a3 s.G.length c3) s.G ∧ w0.heap.size ≤ q ∧ Bl w0 wx)
  case first =>
    have BB := bl_refl w0
    have BB := bl_drew BB
    go_region_held3 (fun w' => w'.cell? ⟨b, o, none⟩ = some h ∧ w'.cell? ⟨b, o + 1, none⟩ = some p ∧ w'.cell? ⟨b, o + 2, none⟩ = some g) (first | (simp [*]; done) | (go_simp; done) | go_keep)
      (first | (go_at_call_of 48 h; go_must (refine (own_any h s.H _ (by first | exact hs.1.below BB | exact hs.1.below (bl_alloc BB _)) (by omega)).mono ?_; rintro e w1 ⟨a1, c1, rfl, o1, hb1⟩; have r1 := Lib.hid o1.lt; have z1 := hb1.size; have BB : Bl w0 w1 := bl_call (by first | exact BB | exact bl_alloc BB _) hb1; obtain ⟨⟨cx, cx1, cx2⟩, fx, zx⟩ := (hx.below BB).out; (first | (have o2 := o2.below hb1) | (have o2 := (o2.alloc _).below hb1) | skip); (first | (have o3 := o3.below hb1) | (have o3 := (o3.alloc _).below hb1) | skip); (first | (have nb := nb.below hb1; obtain ⟨cn, fn, zn⟩ := nb.out) | (have nb := (Bx.new _ #[.slice none 0 0, .slice none 0 0, .slice none 0 0] 26 rfl).below hb1; obtain ⟨cn, fn, zn⟩ := nb.out) | (have nb := (Bx.new w0 #[.slice none 0 0, .slice none 0 0, .slice none 0 0] 26 rfl).drew.below hb1; obtain ⟨cn, fn, zn⟩ := nb.out) | skip))) | (go_at_call_of 48 p; go_must (refine (own_any p s.P _ (by first | exact hs.2.1.below BB | exact hs.2.1.below (bl_alloc BB _)) (by omega)).mono ?_; rintro e w2 ⟨a2, c2, rfl, o2, hb2⟩; have r2 := Lib.hid o2.lt; have z2 := hb2.size; have BB : Bl w0 w2 := bl_call (by first | exact BB | exact bl_alloc BB _) hb2; obtain ⟨⟨cx, cx1, cx2⟩, fx, zx⟩ := (hx.below BB).out; (first | (have o1 := o1.below hb2) | (have o1 := (o1.alloc _).below hb2) | skip); (first | (have o3 := o3.below hb2) | (have o3 := (o3.alloc _).below hb2) | skip); (first | (have nb := nb.below hb2; obtain ⟨cn, fn, zn⟩ := nb.out) | (have nb := (Bx.new _ #[.slice none 0 0, .slice none 0 0, .slice none 0 0] 26 rfl).below hb2; obtain ⟨cn, fn, zn⟩ := nb.out) | (have nb := (Bx.new w0 #[.slice none 0 0, .slice none 0 0, .slice none 0 0] 26 rfl).drew.below hb2; obtain ⟨cn, fn, zn⟩ := nb.out) | skip))) | (go_at_call_of 48 g; go_must (refine (own_any g s.G _ (by first | exact hs.2.2.below BB | exact hs.2.2.below (bl_alloc BB _)) (by omega)).mono ?_; rintro e w3 ⟨a3, c3, rfl, o3, hb3⟩; have r3 := Lib.hid o3.lt; have z3 := hb3.size; have BB : Bl w0 w3 := bl_call (by first | exact BB | exact bl_alloc BB _) hb3; obtain ⟨⟨cx, cx1, cx2⟩, fx, zx⟩ := (hx.below BB).out; (first | (have o1 := o1.below hb3) | (have o1 := (o1.alloc _).below hb3) | skip); (first | (have o2 := o2.below hb3) | (have o2 := (o2.alloc _).below hb3) | skip); (first | (have nb := nb.below hb3; obtain ⟨cn, fn, zn⟩ := nb.out) | (have nb := (Bx.new _ #[.slice none 0 0, .slice none 0 0, .slice none 0 0] 26 rfl).below hb3; obtain ⟨cn, fn, zn⟩ := nb.out) | (have nb := (Bx.new w0 #[.slice none 0 0, .slice none 0 0, .slice none 0 0] 26 rfl).drew.below hb3; obtain ⟨cn, fn, zn⟩ := nb.out) | skip))))
    all_goals (go_wp2_with fail; go_meet)
    all_goals (first
      | (refine ⟨_, a1, c1, a2, c2, a3, c3, rfl, ((nb.set 0 _).set 1 _).set 2 _, ?_, ?_, ?_, ?_, ?_⟩
         · exact (((o1.far (fun k hk => by have q := r1.out k hk; (try simp at q z1 z2 z3); simp; omega) _).far (fun k hk => by have q := r1.out k hk; (try simp at q z1 z2 z3); simp; omega) _).far (fun k hk => by have q := r1.out k hk; (try simp at q z1 z2 z3); simp; omega) _).mono (by first | exact Nat.le_refl _ | ((try simp at z1 z2 z3); have h5 := hb1.size; (try simp at h5); first | omega | (simp; done) | (simp; omega)))
         · exact (((o2.far (fun k hk => by have q := r2.out k hk; (try simp at q z1 z2 z3); simp; omega) _).far (fun k hk => by have q := r2.out k hk; (try simp at q z1 z2 z3); simp; omega) _).far (fun k hk => by have q := r2.out k hk; (try simp at q z1 z2 z3); simp; omega) _).mono (by ((try simp at z1 z2 z3); have h5 := hb1.size; (try simp at h5); first | omega | (simp; done) | (simp; omega)))
         · exact (((o3.far (fun k hk => by have q := r3.out k hk; (try simp at q z1 z2 z3); simp; omega) _).far (fun k hk => by have q := r3.out k hk; (try simp at q z1 z2 z3); simp; omega) _).far (fun k hk => by have q := r3.out k hk; (try simp at q z1 z2 z3); simp; omega) _).mono (by ((try simp at z1 z2 z3); have h5 := hb1.size; (try simp at h5); first | omega | (simp; done) | (simp; omega)))
         · ((try simp at z1 z2 z3); have h5 := hb1.size; (try simp at h5); first | omega | (simp; done) | (simp; omega))
         · exact bl_set (bl_set (bl_set BB (by ((try simp at z1 z2 z3); have h5 := hb1.size; (try simp at h5); first | omega | (simp; done) | (simp; omega))) _) (by ((try simp at z1 z2 z3); have h5 := hb1.size; (try simp at h5); first | omega | (simp; done) | (simp; omega))) _) (by ((try simp at z1 z2 z3); have h5 := hb1.size; (try simp at h5); first | omega | (simp; done) | (simp; omega))) _)
      | exact ⟨_, a1, c1, a2, c2, a3, c3, rfl, Bx.new _ _ _ rfl, (o1.alloc _).mono (by first | exact Nat.le_refl _ | ((try simp at z1 z2 z3); have h5 := hb1.size; (try simp at h5); first | omega | (simp; done) | (simp; omega))), (o2.alloc _).mono (by ((try simp at z1 z2 z3); have h5 := hb1.size; (try simp at h5); first | omega | (simp; done) | (simp; omega))), (o3.alloc _).mono (by ((try simp at z1 z2 z3); have h5 := hb1.size; (try simp at h5); first | omega | (simp; done) | (simp; omega))), BB.size, bl_alloc BB _⟩)
  case rest =>
    obtain ⟨q, a1, c1, a2, c2, a3, c3, rfl, xq, o1, o2, o3, hq, hj⟩ := hcut
    obtain ⟨w4, rfl⟩ : ∃ x : World, x = wc := ⟨_, rfl⟩
    have B4 : Bl w w4 := bl_call BW hj
    have zr0 := hr0.out.2.2
    have hr := hr0.below hj
    clear cx cx1 cx2 fx zx
    obtain ⟨cq, fq, zq⟩ := xq.out
    obtain ⟨cr, fr, zr⟩ := hr.out
    have hne : w.heap.size ≠ q := by omega
    have HO1 := Lib.hid o1
    have HO2 := Lib.hid o2
    have HO3 := Lib.hid o3
    clear o1 o2 o3
    by_cases c : s.P.length = 0
    · have HP := Lib.hid (show plainS s = ⟨shortL s.H, [], []⟩ by rw [plainS, if_pos c])
      have HN := Lib.hid (show s.P = [] ∧ s.G = [] from ⟨List.eq_nil_of_length_eq_zero c, List.eq_nil_of_length_eq_zero (by rw [ok.gp]; exact c)⟩)
      have cb : ((s.P.length : Int) == 0) = true := beq_iff_eq.2 (by omega)
      clear c
      go_wp2_with fail
      refine (shortS_any _ s.H _ HO1.out.sl (by omega) hbd).mono ?_
      rintro e w5 ⟨a, c', rfl, ho, hb5⟩
      have B5 : Bl w w5 := bl_call B4 hb5
      have HO := Lib.hid ho
      have xq5 := xq.below hb5
      have hr5 := hr.below hb5
      clear cq fq cr fr ho
      obtain ⟨cq, fq, zq5⟩ := xq5.out
      obtain ⟨cr, fr, zr5⟩ := hr5.out
      go_wp2
      refine bodyPost_ret (v := .agg #[.slice a (shortL s.H).length c', .slice a2 s.P.length c2, .slice a3 s.G.length c3]) (by simp only [results, Try.results51]; go_simp) rfl ?_
      rw [HP.out]
      refine ⟨a, _, c', a2, _, c2, a3, _, c3, rfl, ⟨?_, ?_, ?_⟩, ?_⟩
      · refine Own.sl (B := w4.heap.size) ?_
        repeat first | (with_reducible exact HO.out) | (with_reducible refine Own.setCell ?_ (by first | exact zq | exact zr | (simp; omega)) _)
      · have h2 := HO2.out.sl
        rw [HN.out.1] at h2
        rw [HN.out.1]
        exact h2.empty
      · have h2 := HO3.out.sl
        rw [HN.out.2] at h2
        rw [HN.out.2]
        exact h2.empty
      · repeat first | (with_reducible exact B5) | (with_reducible refine bl_set ?_ (by first | exact Nat.le_refl _ | (simp; omega) | (have := BW.size; simp; omega)) _)
    · have HP := Lib.hid (show plainS s = s by rw [plainS, if_neg c])
      have cb : ((s.P.length : Int) == 0) = false := beq_eq_false_iff_ne.2 (by omega)
      clear c
      go_wp2
      refine bodyPost_ret (v := .agg #[.slice a1 s.H.length c1, .slice a2 s.P.length c2, .slice a3 s.G.length c3]) (by simp only [results, Try.results51]; go_simp) rfl ?_
      rw [HP.out]
      refine ⟨a1, _, c1, a2, _, c2, a3, _, c3, rfl, ⟨?_, ?_, ?_⟩, ?_⟩
      · refine Own.sl (B := w0.heap.size) ?_
        repeat first | (with_reducible exact HO1.out) | (with_reducible refine Own.setCell ?_ (by first | exact zr0 | (simp; omega)) _)
      · refine Own.sl (B := w0.heap.size) ?_
        repeat first | (with_reducible exact HO2.out) | (with_reducible refine Own.setCell ?_ (by first | exact zr0 | (simp; omega)) _)
      · refine Own.sl (B := w0.heap.size) ?_
        repeat first | (with_reducible exact HO3.out) | (with_reducible refine Own.setCell ?_ (by first | exact zr0 | (simp; omega)) _)
      · repeat first | (with_reducible exact B4) | (with_reducible refine bl_set ?_ (by first | exact Nat.le_refl _ | (simp; omega) | (have := BW.size; simp; omega)) _)
set_option maxRecDepth 100000 in
set_option maxHeartbeats 6400000 in
theorem scompare_anyP (hx px gx : Value) (s : Src) (hy py gy : Value) (t : Src) (m : Nat) (w : World) (bx ox by_ oy : Nat) (hs : SlS w hx px gx s) (ht : SlS w hy py gy t) (Bx0 : P3 w bx ox hx px gx) (By0 : P3 w by_ oy hy py gy) (os : OkPer s) (ot : OkPer t) (ks : ∀ y ∈ s.H, y ≤ 2000000000) (kt : ∀ y ∈ t.H, y ≤ 2000000000) (hm : m ≤ 1000000) :
    Calls Try.prog 44 #[.pointer (some ⟨bx, ox, none⟩), .pointer (some ⟨by_, oy, none⟩), .int .i64 m] w fun e w' => e = .returned (.tuple #[.int .i64 (cmpP (plainS s) (plainS t) m).1, .int .i64 (cmpP (plainS s) (plainS t) m).2]) ∧ Bl w w' := by
  have xX_0 := Bx0
  have xY_0 := By0
  obtain ⟨cX_0, fX_0, zX_0⟩ := xX_0.out
  obtain ⟨cY_0, fY_0, zY_0⟩ := xY_0.out
  have HS := Lib.hid hs
  have HT := Lib.hid ht
  clear hs ht
  go_enter Try.func44, Try.ntmps44
  go_wp2_with fail
  refine (plainSrc_anyP hx px gx s _ bx ox HS.out xX_0 os ks).mono ?_
  rintro e w1 ⟨u1, v1, z1, u2, v2, z2, u3, v3, z3, rfl, HA, hb1⟩
  have B1 : Bl w w1 := bl_call (bl_refl _) hb1
  have xX_1 : P3 w1 bx ox hx px gx := xX_0.below hb1
  have xY_1 : P3 w1 by_ oy hy py gy := xY_0.below hb1
  clear cX_0 fX_0 zX_0 cY_0 fY_0 zY_0
  obtain ⟨cX_1, fX_1, zX_1⟩ := xX_1.out
  obtain ⟨cY_1, fY_1, zY_1⟩ := xY_1.out
  have HA := Lib.hid HA
  go_wp2_with fail
  refine (plainSrc_anyP hy py gy t _ by_ oy (HT.out.below (bl_alloc B1 _)) (xY_1.alloc _) ot kt).mono ?_
  rintro e w2 ⟨p1, q1, r1, p2, q2, r2, p3, q3, r3, rfl, HB, hb2⟩
  have B2 : Bl w w2 := bl_call (bl_alloc B1 _) hb2
  have xX_2 : P3 w2 bx ox hx px gx := (xX_1.alloc _).below hb2
  have xY_2 : P3 w2 by_ oy hy py gy := (xY_1.alloc _).below hb2
  have xA_2 : Bx w2 (w1.heap.size) #[.slice u1 v1 z1, .slice u2 v2 z2, .slice u3 v3 z3] := (Bx.new (b := w1.heap.size) _ #[.slice u1 v1 z1, .slice u2 v2 z2, .slice u3 v3 z3] 26 (by first | rfl | simp)).below hb2
  clear cX_1 fX_1 zX_1 cY_1 fY_1 zY_1
  obtain ⟨cX_2, fX_2, zX_2⟩ := xX_2.out
  obtain ⟨cY_2, fY_2, zY_2⟩ := xY_2.out
  obtain ⟨cA_2, fA_2, zA_2⟩ := xA_2.out
  have HA := Lib.hid ((HA.out.alloc _).below hb2)
  have HB := Lib.hid (HB.alloc (.cells #[.slice p1 q1 r1, .slice p2 q2 r2, .slice p3 q3 r3] 26))
  have HA := Lib.hid (HA.out.alloc (.cells #[.slice p1 q1 r1, .slice p2 q2 r2, .slice p3 q3 r3] 26))
  go_wp2_with fail
  have B3 : Bl w (w2.alloc (.cells #[.slice p1 q1 r1, .slice p2 q2 r2, .slice p3 q3 r3] 26)) := (bl_alloc B2 _)
  have xX_3 : P3 (w2.alloc (.cells #[.slice p1 q1 r1, .slice p2 q2 r2, .slice p3 q3 r3] 26)) bx ox hx px gx := (xX_2.alloc _)
  have xY_3 : P3 (w2.alloc (.cells #[.slice p1 q1 r1, .slice p2 q2 r2, .slice p3 q3 r3] 26)) by_ oy hy py gy := (xY_2.alloc _)
  have xA_3 : Bx (w2.alloc (.cells #[.slice p1 q1 r1, .slice p2 q2 r2, .slice p3 q3 r3] 26)) (w1.heap.size) #[.slice u1 v1 z1, .slice u2 v2 z2, .slice u3 v3 z3] := (xA_2.alloc _)
  have xB_3 : Bx (w2.alloc (.cells #[.slice p1 q1 r1, .slice p2 q2 r2, .slice p3 q3 r3] 26)) (w2.heap.size) #[.slice p1 q1 r1, .slice p2 q2 r2, .slice p3 q3 r3] := (Bx.new (b := w2.heap.size) _ #[.slice p1 q1 r1, .slice p2 q2 r2, .slice p3 q3 r3] 26 (by first | rfl | simp))
  have zz3 : w2.heap.size + 1 ≤ (w2.alloc (.cells #[.slice p1 q1 r1, .slice p2 q2 r2, .slice p3 q3 r3] 26)).heap.size := (by simp)
  clear cX_2 fX_2 zX_2 cY_2 fY_2 zY_2 cA_2 fA_2 zA_2
  generalize (w2.alloc (.cells #[.slice p1 q1 r1, .slice p2 q2 r2, .slice p3 q3 r3] 26)) = w3 at *
  obtain ⟨cX_3, fX_3, zX_3⟩ := xX_3.out
  obtain ⟨cY_3, fY_3, zY_3⟩ := xY_3.out
  obtain ⟨cA_3, fA_3, zA_3⟩ := xA_3.out
  obtain ⟨cB_3, fB_3, zB_3⟩ := xB_3.out
  go_loopw [11, 10] (fun s11 s10 wr => ∃ k : Nat, s11 = .int .i64 k ∧ s10 = .int .i64 (sgnK k) ∧ k ≤ m ∧ Hid (cmpP (plainS s) (plainS t) m = cmpG (decF (plainS s) (plainS t)) (m - k) k) ∧ Bx wr (w1.heap.size) #[.slice u1 v1 z1, .slice u2 v2 z2, .slice u3 v3 z3] ∧ Bx wr (w2.heap.size) #[.slice p1 q1 r1, .slice p2 q2 r2, .slice p3 q3 r3] ∧ SlS wr (.slice u1 v1 z1) (.slice u2 v2 z2) (.slice u3 v3 z3) (plainS s) ∧ SlS wr (.slice p1 q1 r1) (.slice p2 q2 r2) (.slice p3 q3 r3) (plainS t) ∧ Bl w wr) (fun s11 _ _ => m - (intOf s11).toNat)
  case atStart =>
    exact ⟨0, rfl, rfl, Nat.zero_le _, Lib.hid rfl, xA_3, xB_3, HA.out, HB.out, B3⟩
  case round =>
    rcases hrel with ⟨k, rfl, rfl, hkm, hG, yA, yB, HA2, HB2, Br⟩
    have HA2 := Lib.hid HA2
    have HB2 := Lib.hid HB2
    clear cX_3 fX_3 zX_3 cY_3 fY_3 zY_3 cA_3 fA_3 zA_3 cB_3 fB_3 zB_3
    obtain ⟨cA, fA, zA⟩ := yA.out
    obtain ⟨cB, fB, zB⟩ := yB.out
    have hsg : -1 ≤ sgnK k ∧ sgnK k ≤ 1 := by unfold sgnK; split <;> omega
    by_cases hk : k < m
    ·
      obtain ⟨⟨x, o⟩, hx⟩ : ∃ z, termP (plainS s) k = z := ⟨_, rfl⟩
      obtain ⟨⟨y, u⟩, hy⟩ : ∃ z, termP (plainS t) k = z := ⟨_, rfl⟩
      have HX := Lib.hid hx
      have HY := Lib.hid hy
      have HD := Lib.hid (show decF (plainS s) (plainS t) k = decT (x, o) (y, u) k by rw [decF, hx, hy])
      clear hx hy
      go_wp2_with fail
      refine (sterm_eqS HX.out _ _ HA2.out yA os.plain (by omega)).mono ?_
      rintro e wr1 ⟨rfl, hbr1⟩
      have Br1 : Bl w wr1 := bl_call Br hbr1
      have xA_r1 : Bx wr1 (w1.heap.size) #[.slice u1 v1 z1, .slice u2 v2 z2, .slice u3 v3 z3] := yA.below hbr1
      have xB_r1 : Bx wr1 (w2.heap.size) #[.slice p1 q1 r1, .slice p2 q2 r2, .slice p3 q3 r3] := yB.below hbr1
      clear cA fA zA cB fB zB
      obtain ⟨cA_r1, fA_r1, zA_r1⟩ := xA_r1.out
      obtain ⟨cB_r1, fB_r1, zB_r1⟩ := xB_r1.out
      go_wp2_with fail
      refine (sterm_eqS HY.out _ _ (HB2.out.below hbr1) xB_r1 ot.plain (by omega)).mono ?_
      rintro e wr2 ⟨rfl, hbr2⟩
      have Br2 : Bl w wr2 := bl_call Br1 hbr2
      have xA_r2 : Bx wr2 (w1.heap.size) #[.slice u1 v1 z1, .slice u2 v2 z2, .slice u3 v3 z3] := xA_r1.below hbr2
      have xB_r2 : Bx wr2 (w2.heap.size) #[.slice p1 q1 r1, .slice p2 q2 r2, .slice p3 q3 r3] := xB_r1.below hbr2
      clear cA_r1 fA_r1 zA_r1 cB_r1 fB_r1 zB_r1
      obtain ⟨cA_r2, fA_r2, zA_r2⟩ := xA_r2.out
      obtain ⟨cB_r2, fB_r2, zB_r2⟩ := xB_r2.out
      cases o with
      | false =>
        cases u with
        | false =>
          have HE := Lib.hid (cmpG_some hG.out hk (c := 0) (by rw [HD.out]; simp [decT]))
          go_wp2
          go_ret2
          exact ⟨ret_ii HE.out, Br2⟩
        | true =>
          have HE := Lib.hid (cmpG_some hG.out hk (c := sgnK k) (by rw [HD.out]; simp [decT]))
          go_wp2
          go_ret2
          exact ⟨ret_ii HE.out, Br2⟩
      | true =>
        cases u with
        | false =>
          have HE := Lib.hid (cmpG_some hG.out hk (c := -sgnK k) (by rw [HD.out]; simp [decT]))
          go_wp2
          go_ret2
          exact ⟨ret_ii HE.out, Br2⟩
        | true =>
          rcases Int.lt_trichotomy x y with hxy | hxy | hxy
          ·
            have HE := Lib.hid (cmpG_some hG.out hk (c := -sgnK k) (by rw [HD.out]; simp [decT, hxy]))
            go_wp2
            go_ret2
            exact ⟨ret_ii HE.out, Br2⟩
          ·
            subst hxy
            have HE := Lib.hid (cmpG_none hG.out hk (by rw [HD.out]; simp [decT]))
            have hsn := Lib.hid (sgnK_succ k)
            go_wp2
            go_roundw
            case rel => exact ⟨k + 1, by go_num, by rw [hsn.out], by omega, HE, xA_r2, xB_r2, (HA2.out.below hbr1).below hbr2, (HB2.out.below hbr1).below hbr2, Br2⟩
            case measure => clear HE; simp only [intOf, Int.toNat_natCast]; omega
          ·
            have hyx : ¬ x < y := by omega
            have HE := Lib.hid (cmpG_some hG.out hk (c := sgnK k) (by rw [HD.out]; simp [decT, hxy, hyx]))
            go_wp2
            go_ret2
            exact ⟨ret_ii HE.out, Br2⟩
    ·
      have HE := Lib.hid (cmpG_end hG.out hk)
      go_wp2
      go_ret2
      exact ⟨ret_ii HE.out, Br⟩

end Go.Proofs.Ytgkelemfbmmgnaa

/- Lists of sources in memory. Each theorem names its conditions. -/
namespace Go.Proofs.Ytgkelemfbmmgnaa
open Go.RowKit
set_option linter.unusedVariables false
set_option linter.unusedSimpArgs false

/-- A list of sources in memory. -/
def SlL (w : World) (v : Value) (ss : List Src) : Prop :=
  ∃ a c, v = .slice a ss.length c ∧ ss.length ≤ c ∧ c ≤ maxLen ∧ (a = none → c = 0) ∧ ∀ i s, ss[i]? = some s → ∃ b o h p g, a = some ⟨b, o, none⟩ ∧ P3 w b (o + i * 3) h p g ∧ SlS w h p g s
theorem SlL.below {w w' : World} {v : Value} {ss : List Src} (x : SlL w v ss) (hb : Bl w w') : SlL w' v ss := by
  obtain ⟨a, c, e, h1, h2, h3, h4⟩ := x
  refine ⟨a, c, e, h1, h2, h3, fun i s hs => ?_⟩
  obtain ⟨b, o, h, p, g, e2, x1, x2⟩ := h4 i s hs
  exact ⟨b, o, h, p, g, e2, x1.below hb, x2.below hb⟩
theorem SlL.alloc {w : World} {v : Value} {ss : List Src} (x : SlL w v ss) (t : Obj) : SlL (w.alloc t) v ss := x.below (bl_alloc (bl_refl _) t)
theorem SlL.drew {w : World} {v : Value} {ss : List Src} (x : SlL w v ss) : SlL w.drew v ss := x
theorem SlL.form {w : World} {v : Value} {ss : List Src} (x : SlL w v ss) : ∃ a c, v = .slice a ss.length c ∧ ss.length ≤ c := by
  obtain ⟨a, c, e, h1, _⟩ := x; exact ⟨a, c, e, h1⟩
theorem SlL.len {w : World} {v : Value} {ss : List Src} (x : SlL w v ss) : ss.length ≤ 9223372036854775807 := by
  obtain ⟨a, c, e, h1, h2, _⟩ := x; unfold maxLen at h2; omega
theorem SlL.at {w w' : World} {a : Option Addr} {n c : Nat} {ss : List Src} (x : SlL w (.slice a n c) ss) (hb : Bl w w') {k : Nat} (hk : k < ss.length) :
    ∃ b o, a = some ⟨b, o, none⟩ ∧ ∃ h p g s, ss[k]? = some s ∧ P3 w' b (o + k * 3) h p g ∧ SlS w' h p g s := by
  obtain ⟨a', c', e, _, _, _, h4⟩ := x.below hb
  injection e with e1 e2 e3
  subst e1 e2 e3
  obtain ⟨b, o, h, p, g, e, x1, x2⟩ := h4 k _ (List.getElem?_eq_getElem hk)
  exact ⟨b, o, e, h, p, g, _, List.getElem?_eq_getElem hk, x1, x2⟩
/-- .. at a place of a list whose row is known. -/
theorem SlL.atR {w w' : World} {b o n c : Nat} {ss : List Src} (x : SlL w (.slice (some ⟨b, o, none⟩) n c) ss) (hb : Bl w w') {k : Nat} {s : Src} (hs : ss[k]? = some s) :
    ∃ h p g, P3 w' b (o + k * 3) h p g ∧ SlS w' h p g s := by
  obtain ⟨b', o', e, h, p, g, s', hs', x1, x2⟩ := x.at hb (List.getElem?_eq_some_iff.1 hs).1
  injection e with e
  injection e with e1 e2
  subst e1 e2
  rw [hs] at hs'
  injection hs' with hs'
  subst hs'
  exact ⟨h, p, g, x1, x2⟩
/-- The lengths of all lists of a source, of all sources. -/
def totS (s : Src) : Nat := s.H.length + s.P.length + s.G.length
def totL : List Src → Nat
  | [] => 0
  | s :: r => totS s + totL r
theorem totL_take {ss : List Src} {k : Nat} {s : Src} (h : ss[k]? = some s) : totL (ss.take (k + 1)) = totL (ss.take k) + totS s := by
  induction ss generalizing k with
  | nil => simp at h
  | cons t r ih =>
    cases k with
    | zero => simp at h; subst h; simp [totL]
    | succ k =>
      simp only [List.getElem?_cons_succ] at h
      have := ih h
      simp only [List.take_succ_cons, totL]
      omega
theorem totS_le {ss : List Src} {s : Src} (h : s ∈ ss) : totS s ≤ totL ss := by
  induction ss with
  | nil => cases h
  | cons t r ih =>
    rcases List.mem_cons.1 h with rfl | h
    · simp only [totL]; omega
    · have := ih h; simp only [totL]; omega
theorem bel_bl {w w' : World} (h : Below w.heap.size w w') : Bl w w' := h

/-- A list of sources that a call has made: its row, its rows' blocks, all between lo and hi. -/
structure OwnT (w : World) (lo hi g : Nat) (n : Nat) (ss : List Src) (cs : Array Value) (T : Nat → Value × Value × Value) : Prop where
  row : Bx w g cs
  glo : lo ≤ g
  ghi : g < hi
  siz : cs.size = ss.length * 3
  cel : ∀ i, i < n → cs[i * 3]? = some (T i).1 ∧ cs[i * 3 + 1]? = some (T i).2.1 ∧ cs[i * 3 + 2]? = some (T i).2.2
  own : ∀ i s, i < n → ss[i]? = some s → OwnS w lo (T i).1 (T i).2.1 (T i).2.2 s
  top : ∀ i k, i < n → blks (T i).1 (T i).2.1 (T i).2.2 k → g < k ∧ k < hi
  apt : ∀ i j k, i < n → j < n → i ≠ j → blks (T i).1 (T i).2.1 (T i).2.2 k → ¬ blks (T j).1 (T j).2.1 (T j).2.2 k
def OwnL (w : World) (lo hi g : Nat) (ss : List Src) : Prop := ss.length ≤ 1048576 ∧ hi ≤ w.heap.size ∧ ∃ cs T, OwnT w lo hi g ss.length ss cs T
theorem OwnT.below {w w' : World} {lo hi g n : Nat} {ss : List Src} {cs : Array Value} {T : Nat → Value × Value × Value} (x : OwnT w lo hi g n ss cs T) (hb : Bl w w') : OwnT w' lo hi g n ss cs T :=
  ⟨x.row.below hb, x.glo, x.ghi, x.siz, x.cel, fun i s hi hs => (x.own i s hi hs).below hb, x.top, x.apt⟩
theorem OwnL.below {w w' : World} {lo hi g : Nat} {ss : List Src} (x : OwnL w lo hi g ss) (hb : Bl w w') : OwnL w' lo hi g ss := by
  obtain ⟨h1, h2, cs, T, h3⟩ := x
  exact ⟨h1, Nat.le_trans h2 hb.size, cs, T, h3.below hb⟩
theorem OwnL.alloc {w : World} {lo hi g : Nat} {ss : List Src} (x : OwnL w lo hi g ss) (t : Obj) : OwnL (w.alloc t) lo hi g ss := x.below (bl_alloc (bl_refl _) t)
theorem OwnL.drew {w : World} {lo hi g : Nat} {ss : List Src} (x : OwnL w lo hi g ss) : OwnL w.drew lo hi g ss := x.below (bl_drew (bl_refl _))
theorem OwnL.sl {w : World} {lo hi g : Nat} {ss : List Src} (x : OwnL w lo hi g ss) : SlL w (.slice (some ⟨g, 0, none⟩) ss.length ss.length) ss := by
  obtain ⟨h1, h2, cs, T, x⟩ := x
  refine ⟨some ⟨g, 0, none⟩, ss.length, rfl, Nat.le_refl _, by unfold maxLen; omega, by simp, fun i s hs => ?_⟩
  have hl := (List.getElem?_eq_some_iff.1 hs).1
  have hc := x.cel i hl
  have hr := x.row.out.1
  refine ⟨g, 0, (T i).1, (T i).2.1, (T i).2.2, rfl, ⟨?_, ?_, ?_⟩, (x.own i s hl hs).sl⟩
  · rw [Nat.zero_add, hr]; exact hc.1
  · rw [Nat.zero_add, hr]; exact hc.2.1
  · rw [Nat.zero_add, hr]; exact hc.2.2
theorem OwnS.setCell {w : World} {B : Nat} {h p g : Value} {s : Src} (x : OwnS w B h p g s) {a : Addr} (ha : a.block < B) (u : Value) : OwnS (w.setCell a u) B h p g s :=
  ⟨x.1.setCell ha u, x.2.1.setCell ha u, x.2.2.1.setCell ha u, x.2.2.2⟩
theorem Own.farK {w : World} {B : Nat} {v : Value} {xs : List Int} (h : Own w B v xs) {p : Addr} (hp : ∀ k, v.ownBlock = some k → k ≠ p.block) (u : Value) : Own (w.setCell p u) B v xs := by
  refine h.grown (row := some p.block) ⟨rfl, rfl, rfl, by simp, fun k hk hne => Below.heap_setCell w p u k (fun e => hne (by rw [e]))⟩ (.inr fun e => hp _ e rfl)
theorem OwnS.farK {w : World} {B : Nat} {h p g : Value} {s : Src} (x : OwnS w B h p g s) {a : Addr} (ha : ∀ k, blks h p g k → k ≠ a.block) (u : Value) : OwnS (w.setCell a u) B h p g s :=
  ⟨x.1.farK (fun k e => ha k (.inl e)) u, x.2.1.farK (fun k e => ha k (.inr (.inl e))) u, x.2.2.1.farK (fun k e => ha k (.inr (.inr e))) u, x.2.2.2⟩
theorem ownT_start {w : World} {g : Nat} {ss : List Src} {cs : Array Value} (hx : Bx w g cs) (hs : cs.size = ss.length * 3) (hi : Nat) (hg : g < hi) : OwnT w g hi g 0 ss cs (fun _ => (.slice none 0 0, .slice none 0 0, .slice none 0 0)) :=
  ⟨hx, Nat.le_refl _, hg, hs, fun i h => absurd h (by omega), fun i s h => absurd h (by omega), fun i k h => absurd h (by omega), fun i j k h => absurd h (by omega)⟩
theorem cs_set3 {cs : Array Value} {n j : Nat} {a b c : Value} (hs : cs.size = n * 3) (hj : j < n) : ∀ i, i < n → (((cs.setIfInBounds (j * 3) a).setIfInBounds (j * 3 + 1) b).setIfInBounds (j * 3 + 2) c)[i * 3]? = (if i = j then some a else cs[i * 3]?) ∧ (((cs.setIfInBounds (j * 3) a).setIfInBounds (j * 3 + 1) b).setIfInBounds (j * 3 + 2) c)[i * 3 + 1]? = (if i = j then some b else cs[i * 3 + 1]?) ∧ (((cs.setIfInBounds (j * 3) a).setIfInBounds (j * 3 + 1) b).setIfInBounds (j * 3 + 2) c)[i * 3 + 2]? = (if i = j then some c else cs[i * 3 + 2]?) := by
  intro i hi
  by_cases h : i = j
  · subst h
    simp only [if_true]
    refine ⟨?_, ?_, ?_⟩
    · rw [Array.getElem?_setIfInBounds_ne (by omega), Array.getElem?_setIfInBounds_ne (by omega), Array.getElem?_setIfInBounds_self_of_lt (by omega)]
    · rw [Array.getElem?_setIfInBounds_ne (by omega), Array.getElem?_setIfInBounds_self_of_lt (by simp; omega)]
    · rw [Array.getElem?_setIfInBounds_self_of_lt (by simp; omega)]
  · simp only [if_neg h]
    refine ⟨?_, ?_, ?_⟩ <;> rw [Array.getElem?_setIfInBounds_ne (by omega), Array.getElem?_setIfInBounds_ne (by omega), Array.getElem?_setIfInBounds_ne (by omega)]
/-- One source more in the row. -/
theorem OwnT.step {w w2 : World} {lo hi g n : Nat} {ss : List Src} {cs : Array Value} {T : Nat → Value × Value × Value} {s : Src} {a b c : Value} (x : OwnT w lo hi g n ss cs T) (hb : Bl w w2) (hw : w.heap.size = hi) (hn : n < ss.length) (hs : ss[n]? = some s) (o : OwnS w2 w.heap.size a b c s) :
    OwnT (((w2.setCell ⟨g, n * 3, none⟩ a).setCell ⟨g, n * 3 + 1, none⟩ b).setCell ⟨g, n * 3 + 2, none⟩ c) lo w2.heap.size g (n + 1) ss (((cs.setIfInBounds (n * 3) a).setIfInBounds (n * 3 + 1) b).setIfInBounds (n * 3 + 2) c) (fun i => if i = n then (a, b, c) else T i) := by
  have x2 := x.below hb
  have hz := hb.size
  have hg := x.ghi
  have hgl := x.glo
  have lo2 := o.blk
  refine ⟨((x2.row.set _ _).set _ _).set _ _, x.glo, by omega, by simp [x.siz], fun i hi => ?_, fun i s' hi hs' => ?_, fun i k hi hk => ?_, fun i j k hi hj hne hk hk' => ?_⟩
  · have h3 := cs_set3 (a := a) (b := b) (c := c) x.siz hn i (by omega)
    by_cases h : i = n
    · simp only [if_pos h] at h3 ⊢
      exact h3
    · simp only [if_neg h] at h3 ⊢
      have := x.cel i (by omega)
      exact ⟨h3.1.trans this.1, h3.2.1.trans this.2.1, h3.2.2.trans this.2.2⟩
  · by_cases h : i = n
    · subst h
      simp only [if_true]
      obtain rfl : s' = s := by rw [hs] at hs'; exact (Option.some.inj hs').symm
      refine OwnS.mono (B := w.heap.size) ?_ (by omega)
      exact ((o.setCell (a := ⟨g, i * 3, none⟩) (by show g < _; omega) _).setCell (a := ⟨g, i * 3 + 1, none⟩) (by show g < _; omega) _).setCell (a := ⟨g, i * 3 + 2, none⟩) (by show g < _; omega) _
    · simp only [if_neg h]
      have o1 := x2.own i s' (by omega) hs'
      have ht := x.top i
      have hf : ∀ k, blks (T i).1 (T i).2.1 (T i).2.2 k → k ≠ g := fun k hk => by have := ht k (by omega) hk; omega
      exact ((o1.farK (a := ⟨g, n * 3, none⟩) hf _).farK (a := ⟨g, n * 3 + 1, none⟩) hf _).farK (a := ⟨g, n * 3 + 2, none⟩) hf _
  · by_cases h : i = n
    · simp only [if_pos h] at hk
      have := lo2 k hk
      omega
    · simp only [if_neg h] at hk
      have := x.top i k (by omega) hk
      omega
  · by_cases h : i = n
    · have h' : ¬ j = n := fun e => hne (by rw [h, e])
      simp only [if_pos h] at hk
      simp only [if_neg h'] at hk'
      have := lo2 k hk
      have := x.top j k (by omega) hk'
      omega
    · simp only [if_neg h] at hk
      by_cases h' : j = n
      · simp only [if_pos h'] at hk'
        have := lo2 k hk'
        have := x.top i k (by omega) hk
        omega
      · simp only [if_neg h'] at hk'
        exact x.apt i j k (by omega) (by omega) hne hk hk'
theorem info_src : (Try.prog.info? 26).map (fun i => (i.zero, i.size, i.bytes)) = some (some (.agg #[.slice none 0 0, .slice none 0 0, .slice none 0 0]), 3, 72) := by kernel_rfl
end Go.Proofs.Ytgkelemfbmmgnaa

