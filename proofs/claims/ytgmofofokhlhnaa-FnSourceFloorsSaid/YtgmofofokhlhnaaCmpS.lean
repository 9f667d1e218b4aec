/- The comparison of two sources: the program and the reference. Each theorem names its conditions. -/
import Derived.Test.YtgmofofokhlhnaaPlain
namespace Go.Proofs.Ytgmofofokhlhnaa
open Go.RowKit
set_option linter.unusedVariables false
set_option linter.unusedSimpArgs false

/-- The sign with which terms at a place count. -/
def sgnK (k : Nat) : Int := if k % 2 = 0 then 1 else -1
theorem sgnK_succ (k : Nat) : sgnK (k + 1) = -sgnK k := by
  unfold sgnK
  split <;> split <;> omega
theorem sgnK_even {k : Nat} (h : k % 2 = 0) : sgnK k = 1 := if_pos h
theorem sgnK_odd {k : Nat} (h : ¬ k % 2 = 0) : sgnK k = -1 := if_neg h
/-- What the terms at a place decide. -/
def decT (a b : Int × Bool) (k : Nat) : Option Int :=
  match a.2, b.2 with
  | false, false => some 0
  | false, true => some (sgnK k)
  | true, false => some (-sgnK k)
  | true, true => if a.1 < b.1 then some (-sgnK k) else if b.1 < a.1 then some (sgnK k) else none
def decF (s t : Src) (k : Nat) : Option Int := decT (termP s k) (termP t k) k
/-- The first decision among n places from k on. -/
def cmpG (f : Nat → Option Int) : Nat → Nat → Int × Int
  | 0, _ => (0, 10)
  | n + 1, k => match f k with | some c => (c, 0) | none => cmpG f n (k + 1)
def cmpP (s t : Src) (most : Nat) : Int × Int := cmpG (decF s t) most 0
theorem cmpG_some {f : Nat → Option Int} {m k : Nat} {c : Int} {r : Int × Int} (h : r = cmpG f (m - k) k) (hk : k < m) (hf : f k = some c) : (c, 0) = r := by
  rw [h, show m - k = (m - (k + 1)) + 1 by omega, cmpG, hf]
theorem cmpG_none {f : Nat → Option Int} {m k : Nat} {r : Int × Int} (h : r = cmpG f (m - k) k) (hk : k < m) (hf : f k = none) : r = cmpG f (m - (k + 1)) (k + 1) := by
  rw [h, show m - k = (m - (k + 1)) + 1 by omega, cmpG, hf]
theorem cmpG_end {f : Nat → Option Int} {m k : Nat} {r : Int × Int} (h : r = cmpG f (m - k) k) (hk : ¬ k < m) : ((0 : Int), (10 : Int)) = r := by
  rw [h, show m - k = 0 by omega, cmpG]
theorem at_eq {a1 : Option Addr} {n1 c1 : Nat} {a2 : Option Addr} {n2 c2 : Nat} {a3 : Option Addr} {n3 c3 : Nat} {a4 : Option Addr} {n4 c4 : Nat} {b : Bool} {s : Src} {k : Nat} {x : Int} {o : Bool} (he : termP s k = (x, o)) (w : World) (hs : ShS w a1 n1 c1 a2 n2 c2 a3 n3 c3 a4 n4 c4 b s) (h1 : k ≤ 1000000) :
    Calls Try.prog 88 #[.agg #[.slice a1 n1 c1, .slice a2 n2 c2, .slice a3 n3 c3, .slice a4 n4 c4, .bool b], .int .i64 k] w fun e w' => e = .returned (.tuple #[.int .i64 x, .bool o]) ∧ Bl w w' := by
  have := at_any a1 n1 c1 a2 n2 c2 a3 n3 c3 a4 n4 c4 b s k w hs (by omega) (by omega)
  rw [Int.toNat_natCast, he] at this
  exact this
theorem sterm_eqS {h p g : Value} {s : Src} {k : Nat} {x : Int} {o : Bool} (he : termP s k = (x, o)) (w : World) (b : Nat) (ha : SlS w h p g s) (hx : Bx w b #[h, p, g]) (ok : OkPer s) (h1 : k ≤ 1000000) :
    Calls Try.prog 91 #[.pointer (some ⟨b, 0, none⟩), .int .i64 k] w fun e w' => e = .returned (.tuple #[.int .i64 x, .bool o]) ∧ Bl w w' := by
  have := sterm_any h p g s k w b ha hx ok (by omega) (by omega)
  rw [Int.toNat_natCast, he] at this
  exact this
/-- -1, 0 or 1. -/
def cmpV (a b : Int) : Int := if a < b then -1 else if b < a then 1 else 0
set_option maxHeartbeats 400000 in
theorem cmpV_any (a b : Int) (w : World) : Calls Try.prog 138 #[.int .i64 a, .int .i64 b] w fun e w' => e = .returned (.int .i64 (cmpV a b)) ∧ w = w' := by
  by_cases h1 : a < b
  · go_enter Try.func138, Try.ntmps138
    go_wp2
    go_ret
    exact ⟨ret_int (by rw [cmpV, if_pos h1]), rfl⟩
  · by_cases h2 : b < a
    · go_enter Try.func138, Try.ntmps138
      go_wp2
      go_ret
      exact ⟨ret_int (by rw [cmpV, if_neg (by omega), if_pos h2]), rfl⟩
    · go_enter Try.func138, Try.ntmps138
      go_wp2
      go_ret
      exact ⟨ret_int (by rw [cmpV, if_neg (by omega), if_neg (by omega)]), rfl⟩
theorem cmp_eq {a b c : Int} (h : cmpV a b = c) (w : World) : Calls Try.prog 138 #[.int .i64 a, .int .i64 b] w fun e w' => e = .returned (.int .i64 c) ∧ w = w' :=
  (cmpV_any a b w).mono (by rintro e w' ⟨h1, rfl⟩; exact ⟨h ▸ h1, rfl⟩)

set_option maxRecDepth 100000 in
set_option maxHeartbeats 6400000 in
theorem compareBy_any (ax1 : Option Addr) (nx1 cx1 : Nat) (ax2 : Option Addr) (nx2 cx2 : Nat) (ax3 : Option Addr) (nx3 cx3 : Nat) (ax4 : Option Addr) (nx4 cx4 : Nat) (bx : Bool) (s : Src) (ay1 : Option Addr) (ny1 cy1 : Nat) (ay2 : Option Addr) (ny2 cy2 : Nat) (ay3 : Option Addr) (ny3 cy3 : Nat) (ay4 : Option Addr) (ny4 cy4 : Nat) (by_ : Bool) (t : Src) (m : Nat) (w : World) (hs : ShS w ax1 nx1 cx1 ax2 nx2 cx2 ax3 nx3 cx3 ax4 nx4 cx4 bx s) (ht : ShS w ay1 ny1 cy1 ay2 ny2 cy2 ay3 ny3 cy3 ay4 ny4 cy4 by_ t) (hm : m ≤ 1000000) :
    Calls Try.prog 80 #[.agg #[.slice ax1 nx1 cx1, .slice ax2 nx2 cx2, .slice ax3 nx3 cx3, .slice ax4 nx4 cx4, .bool bx], .agg #[.slice ay1 ny1 cy1, .slice ay2 ny2 cy2, .slice ay3 ny3 cy3, .slice ay4 ny4 cy4, .bool by_], .int .i64 m] w fun e w' => e = .returned (.tuple #[.int .i64 (cmpP s t m).1, .int .i64 (cmpP s t m).2]) ∧ Bl w w' := by
  have HS := Lib.hid hs
  have HT := Lib.hid ht
  clear hs ht
  go_enter Try.func80, Try.ntmps80
  go_wp2_with fail
  have B1 : Bl w ((w.alloc (.cells #[.slice ax1 nx1 cx1, .slice ax2 nx2 cx2, .slice ax3 nx3 cx3, .slice ax4 nx4 cx4, .bool bx] 107)).alloc (.cells #[.slice ay1 ny1 cy1, .slice ay2 ny2 cy2, .slice ay3 ny3 cy3, .slice ay4 ny4 cy4, .bool by_] 107)) := (bl_alloc (bl_alloc (bl_refl _) _) _)
  have xF_1 : Bx ((w.alloc (.cells #[.slice ax1 nx1 cx1, .slice ax2 nx2 cx2, .slice ax3 nx3 cx3, .slice ax4 nx4 cx4, .bool bx] 107)).alloc (.cells #[.slice ay1 ny1 cy1, .slice ay2 ny2 cy2, .slice ay3 ny3 cy3, .slice ay4 ny4 cy4, .bool by_] 107)) (w.heap.size) #[.slice ax1 nx1 cx1, .slice ax2 nx2 cx2, .slice ax3 nx3 cx3, .slice ax4 nx4 cx4, .bool bx] := ((Bx.new (b := w.heap.size) _ #[.slice ax1 nx1 cx1, .slice ax2 nx2 cx2, .slice ax3 nx3 cx3, .slice ax4 nx4 cx4, .bool bx] 107 (by first | rfl | simp)).alloc _)
  have xG_1 : Bx ((w.alloc (.cells #[.slice ax1 nx1 cx1, .slice ax2 nx2 cx2, .slice ax3 nx3 cx3, .slice ax4 nx4 cx4, .bool bx] 107)).alloc (.cells #[.slice ay1 ny1 cy1, .slice ay2 ny2 cy2, .slice ay3 ny3 cy3, .slice ay4 ny4 cy4, .bool by_] 107)) (w.heap.size + 1) #[.slice ay1 ny1 cy1, .slice ay2 ny2 cy2, .slice ay3 ny3 cy3, .slice ay4 ny4 cy4, .bool by_] := (Bx.new (b := w.heap.size + 1) _ #[.slice ay1 ny1 cy1, .slice ay2 ny2 cy2, .slice ay3 ny3 cy3, .slice ay4 ny4 cy4, .bool by_] 107 (by first | rfl | simp))
  have zz1 : w.heap.size + 2 ≤ ((w.alloc (.cells #[.slice ax1 nx1 cx1, .slice ax2 nx2 cx2, .slice ax3 nx3 cx3, .slice ax4 nx4 cx4, .bool bx] 107)).alloc (.cells #[.slice ay1 ny1 cy1, .slice ay2 ny2 cy2, .slice ay3 ny3 cy3, .slice ay4 ny4 cy4, .bool by_] 107)).heap.size := (by simp)
  generalize ((w.alloc (.cells #[.slice ax1 nx1 cx1, .slice ax2 nx2 cx2, .slice ax3 nx3 cx3, .slice ax4 nx4 cx4, .bool bx] 107)).alloc (.cells #[.slice ay1 ny1 cy1, .slice ay2 ny2 cy2, .slice ay3 ny3 cy3, .slice ay4 ny4 cy4, .bool by_] 107)) = w1 at *
  obtain ⟨cF_1, fF_1, zF_1⟩ := xF_1.out
  obtain ⟨cG_1, fG_1, zG_1⟩ := xG_1.out
  go_loopw [15, 8, 9, 10, 11, 12, 13] (fun s15 s8 s9 s10 s11 s12 s13 wr => ∃ k : Nat, s15 = .int .i64 k ∧ k ≤ m ∧ Hid (cmpP s t m = cmpG (decF s t) (m - k) k) ∧ Bx wr (w.heap.size) #[.slice ax1 nx1 cx1, .slice ax2 nx2 cx2, .slice ax3 nx3 cx3, .slice ax4 nx4 cx4, .bool bx] ∧ Bx wr (w.heap.size + 1) #[.slice ay1 ny1 cy1, .slice ay2 ny2 cy2, .slice ay3 ny3 cy3, .slice ay4 ny4 cy4, .bool by_] ∧ Bl w wr) (fun s15 _ _ _ _ _ _ _ => m - (intOf s15).toNat)
  case atStart =>
    exact ⟨0, rfl, Nat.zero_le _, Lib.hid rfl, xF_1, xG_1, B1⟩
  case round =>
    rcases hrel with ⟨k, rfl, hkm, hG, yF, yG, Br⟩
    clear cF_1 fF_1 zF_1 cG_1 fG_1 zG_1
    obtain ⟨cF, fF, zF⟩ := yF.out
    obtain ⟨cG, fG, zG⟩ := yG.out
    by_cases hk : k < m
    ·
      obtain ⟨⟨x, o⟩, hx⟩ : ∃ z, termP s k = z := ⟨_, rfl⟩
      obtain ⟨⟨y, u⟩, hy⟩ : ∃ z, termP t k = z := ⟨_, rfl⟩
      have HX := Lib.hid hx
      have HY := Lib.hid hy
      have HD := Lib.hid (show decF s t k = decT (x, o) (y, u) k by rw [decF, hx, hy])
      clear hx hy
      go_wp2_with fail
      refine (at_eq HX.out _ (HS.out.below Br) (by omega)).mono ?_
      rintro e wr1 ⟨rfl, hbr1⟩
      have Br1 : Bl w wr1 := bl_call Br hbr1
      have xF_r1 : Bx wr1 (w.heap.size) #[.slice ax1 nx1 cx1, .slice ax2 nx2 cx2, .slice ax3 nx3 cx3, .slice ax4 nx4 cx4, .bool bx] := yF.below hbr1
      have xG_r1 : Bx wr1 (w.heap.size + 1) #[.slice ay1 ny1 cy1, .slice ay2 ny2 cy2, .slice ay3 ny3 cy3, .slice ay4 ny4 cy4, .bool by_] := yG.below hbr1
      clear cF fF zF cG fG zG
      obtain ⟨cF_r1, fF_r1, zF_r1⟩ := xF_r1.out
      obtain ⟨cG_r1, fG_r1, zG_r1⟩ := xG_r1.out
      go_wp2_with fail
      refine (at_eq HY.out _ (HT.out.below Br1) (by omega)).mono ?_
      rintro e wr2 ⟨rfl, hbr2⟩
      have Br2 : Bl w wr2 := bl_call Br1 hbr2
      have xF_r2 : Bx wr2 (w.heap.size) #[.slice ax1 nx1 cx1, .slice ax2 nx2 cx2, .slice ax3 nx3 cx3, .slice ax4 nx4 cx4, .bool bx] := xF_r1.below hbr2
      have xG_r2 : Bx wr2 (w.heap.size + 1) #[.slice ay1 ny1 cy1, .slice ay2 ny2 cy2, .slice ay3 ny3 cy3, .slice ay4 ny4 cy4, .bool by_] := xG_r1.below hbr2
      clear cF_r1 fF_r1 zF_r1 cG_r1 fG_r1 zG_r1
      obtain ⟨cF_r2, fF_r2, zF_r2⟩ := xF_r2.out
      obtain ⟨cG_r2, fG_r2, zG_r2⟩ := xG_r2.out
      cases o with
      | false =>
        cases u with
        | false =>
          have HE := Lib.hid (cmpG_some hG.out hk (c := 0) (by rw [HD.out]; simp [decT, sgnK]))
          go_wp2
          go_ret2
          exact ⟨ret_ii HE.out, Br2⟩
        | true =>
          by_cases hpar : k % 2 = 0
          ·
            have hp : ((k : Int) % 2 == 1) = false := by simp; omega
            have HE := Lib.hid (cmpG_some hG.out hk (c := 1) (by rw [HD.out]; simp [decT, sgnK_even hpar]))
            clear hpar
            go_wp2
            go_ret2
            exact ⟨ret_ii HE.out, Br2⟩
          ·
            have hp : ((k : Int) % 2 == 1) = true := by simp; omega
            have HE := Lib.hid (cmpG_some hG.out hk (c := -(1)) (by rw [HD.out]; simp [decT, sgnK_odd hpar]))
            clear hpar
            go_wp2
            go_ret2
            exact ⟨ret_ii HE.out, Br2⟩
      | true =>
        cases u with
        | false =>
          by_cases hpar : k % 2 = 0
          ·
            have hp : ((k : Int) % 2 == 1) = false := by simp; omega
            have HE := Lib.hid (cmpG_some hG.out hk (c := -1) (by rw [HD.out]; simp [decT, sgnK_even hpar]))
            clear hpar
            go_wp2
            go_ret2
            exact ⟨ret_ii HE.out, Br2⟩
          ·
            have hp : ((k : Int) % 2 == 1) = true := by simp; omega
            have HE := Lib.hid (cmpG_some hG.out hk (c := -(-1)) (by rw [HD.out]; simp [decT, sgnK_odd hpar]))
            clear hpar
            go_wp2
            go_ret2
            exact ⟨ret_ii HE.out, Br2⟩
        | true =>
          rcases Int.lt_trichotomy x y with hxy | hxy | hxy
          ·
            by_cases hpar : k % 2 = 0
            ·
              have hp : ((k : Int) % 2 == 1) = false := by simp; omega
              have HE := Lib.hid (cmpG_some hG.out hk (c := -1) (by rw [HD.out]; simp [decT, sgnK_even hpar]; omega))
              clear hpar
              have HC := Lib.hid (show cmpV x y = -1 by unfold cmpV; omega)
              go_wp2_with fail
              refine (cmp_eq HC.out _).mono ?_
              rintro e wc ⟨rfl, rfl⟩
              go_wp2
              go_ret2
              exact ⟨ret_ii HE.out, Br2⟩
            ·
              have hp : ((k : Int) % 2 == 1) = true := by simp; omega
              have HE := Lib.hid (cmpG_some hG.out hk (c := -(-1)) (by rw [HD.out]; simp [decT, sgnK_odd hpar]; omega))
              clear hpar
              have HC := Lib.hid (show cmpV x y = -1 by unfold cmpV; omega)
              go_wp2_with fail
              refine (cmp_eq HC.out _).mono ?_
              rintro e wc ⟨rfl, rfl⟩
              go_wp2
              go_ret2
              exact ⟨ret_ii HE.out, Br2⟩
          ·
            subst hxy
            by_cases hpar : k % 2 = 0
            ·
              have hp : ((k : Int) % 2 == 1) = false := by simp; omega
              have HE := Lib.hid (cmpG_none hG.out hk (by rw [HD.out]; simp [decT]; try omega))
              clear hpar
              have HC := Lib.hid (show cmpV x x = 0 by unfold cmpV; omega)
              go_wp2_with fail
              refine (cmp_eq HC.out _).mono ?_
              rintro e wc ⟨rfl, rfl⟩
              go_wp2
              go_roundw
              case rel => exact ⟨k + 1, by go_num, by omega, HE, xF_r2, xG_r2, Br2⟩
              case measure => clear HE; (try clear HC); simp only [intOf, Int.toNat_natCast]; omega
            ·
              have hp : ((k : Int) % 2 == 1) = true := by simp; omega
              have HE := Lib.hid (cmpG_none hG.out hk (by rw [HD.out]; simp [decT]; try omega))
              clear hpar
              have HC := Lib.hid (show cmpV x x = 0 by unfold cmpV; omega)
              go_wp2_with fail
              refine (cmp_eq HC.out _).mono ?_
              rintro e wc ⟨rfl, rfl⟩
              go_wp2
              go_roundw
              case rel => exact ⟨k + 1, by go_num, by omega, HE, xF_r2, xG_r2, Br2⟩
              case measure => clear HE; (try clear HC); simp only [intOf, Int.toNat_natCast]; omega
          ·
            by_cases hpar : k % 2 = 0
            ·
              have hp : ((k : Int) % 2 == 1) = false := by simp; omega
              have HE := Lib.hid (cmpG_some hG.out hk (c := 1) (by rw [HD.out]; simp [decT, sgnK_even hpar, show ¬ x < y by omega, hxy]))
              clear hpar
              have HC := Lib.hid (show cmpV x y = 1 by unfold cmpV; omega)
              go_wp2_with fail
              refine (cmp_eq HC.out _).mono ?_
              rintro e wc ⟨rfl, rfl⟩
              go_wp2
              go_ret2
              exact ⟨ret_ii HE.out, Br2⟩
            ·
              have hp : ((k : Int) % 2 == 1) = true := by simp; omega
              have HE := Lib.hid (cmpG_some hG.out hk (c := -(1)) (by rw [HD.out]; simp [decT, sgnK_odd hpar, show ¬ x < y by omega, hxy]))
              clear hpar
              have HC := Lib.hid (show cmpV x y = 1 by unfold cmpV; omega)
              go_wp2_with fail
              refine (cmp_eq HC.out _).mono ?_
              rintro e wc ⟨rfl, rfl⟩
              go_wp2
              go_ret2
              exact ⟨ret_ii HE.out, Br2⟩
    ·
      have HE := Lib.hid (cmpG_end hG.out hk)
      go_wp2
      go_ret2
      exact ⟨ret_ii HE.out, Br⟩

set_option maxRecDepth 100000 in
set_option maxHeartbeats 6400000 in
theorem scompare_any (hx px gx : Value) (s : Src) (hy py gy : Value) (t : Src) (m : Nat) (w : World) (bx by_ : Nat) (hs : SlS w hx px gx s) (ht : SlS w hy py gy t) (Bx0 : Bx w bx #[hx, px, gx]) (By0 : Bx w by_ #[hy, py, gy]) (os : OkPer s) (ot : OkPer t) (ks : ∀ y ∈ s.H, y ≤ 2000000000) (kt : ∀ y ∈ t.H, y ≤ 2000000000) (hm : m ≤ 1000000) :
    Calls Try.prog 83 #[.pointer (some ⟨bx, 0, none⟩), .pointer (some ⟨by_, 0, none⟩), .int .i64 m] w fun e w' => e = .returned (.tuple #[.int .i64 (cmpP (plainS s) (plainS t) m).1, .int .i64 (cmpP (plainS s) (plainS t) m).2]) ∧ Bl w w' := by
  have xX_0 := Bx0
  have xY_0 := By0
  obtain ⟨cX_0, fX_0, zX_0⟩ := xX_0.out
  obtain ⟨cY_0, fY_0, zY_0⟩ := xY_0.out
  have HS := Lib.hid hs
  have HT := Lib.hid ht
  clear hs ht
  go_enter Try.func83, Try.ntmps83
  go_wp2_with fail
  refine (plainSrc_any hx px gx s _ bx HS.out xX_0 os ks).mono ?_
  rintro e w1 ⟨u1, v1, z1, u2, v2, z2, u3, v3, z3, rfl, HA, hb1⟩
  have B1 : Bl w w1 := bl_call (bl_refl _) hb1
  have xX_1 : Bx w1 (bx) #[hx, px, gx] := xX_0.below hb1
  have xY_1 : Bx w1 (by_) #[hy, py, gy] := xY_0.below hb1
  clear cX_0 fX_0 zX_0 cY_0 fY_0 zY_0
  obtain ⟨cX_1, fX_1, zX_1⟩ := xX_1.out
  obtain ⟨cY_1, fY_1, zY_1⟩ := xY_1.out
  have HA := Lib.hid HA
  go_wp2_with fail
  refine (plainSrc_any hy py gy t _ by_ (HT.out.below (bl_alloc B1 _)) (xY_1.alloc _) ot kt).mono ?_
  rintro e w2 ⟨p1, q1, r1, p2, q2, r2, p3, q3, r3, rfl, HB, hb2⟩
  have B2 : Bl w w2 := bl_call (bl_alloc B1 _) hb2
  have xX_2 : Bx w2 (bx) #[hx, px, gx] := (xX_1.alloc _).below hb2
  have xY_2 : Bx w2 (by_) #[hy, py, gy] := (xY_1.alloc _).below hb2
  have xA_2 : Bx w2 (w1.heap.size) #[.slice u1 v1 z1, .slice u2 v2 z2, .slice u3 v3 z3] := (Bx.new (b := w1.heap.size) _ #[.slice u1 v1 z1, .slice u2 v2 z2, .slice u3 v3 z3] 26 (by first | rfl | simp)).below hb2
  clear cX_1 fX_1 zX_1 cY_1 fY_1 zY_1
  obtain ⟨cX_2, fX_2, zX_2⟩ := xX_2.out
  obtain ⟨cY_2, fY_2, zY_2⟩ := xY_2.out
  obtain ⟨cA_2, fA_2, zA_2⟩ := xA_2.out
  have HA := Lib.hid ((HA.out.alloc _).below hb2)
  have HB := Lib.hid (HB.alloc (.cells #[.slice p1 q1 r1, .slice p2 q2 r2, .slice p3 q3 r3] 26))
  have HA := Lib.hid (HA.out.alloc (.cells #[.slice p1 q1 r1, .slice p2 q2 r2, .slice p3 q3 r3] 26))
  go_wp2_with fail
  have B3 : Bl w (w2.alloc (.cells #[.slice p1 q1 r1, .slice p2 q2 r2, .slice p3 q3 r3] 26)) := (bl_alloc B2 _)
  have xX_3 : Bx (w2.alloc (.cells #[.slice p1 q1 r1, .slice p2 q2 r2, .slice p3 q3 r3] 26)) (bx) #[hx, px, gx] := (xX_2.alloc _)
  have xY_3 : Bx (w2.alloc (.cells #[.slice p1 q1 r1, .slice p2 q2 r2, .slice p3 q3 r3] 26)) (by_) #[hy, py, gy] := (xY_2.alloc _)
  have xA_3 : Bx (w2.alloc (.cells #[.slice p1 q1 r1, .slice p2 q2 r2, .slice p3 q3 r3] 26)) (w1.heap.size) #[.slice u1 v1 z1, .slice u2 v2 z2, .slice u3 v3 z3] := (xA_2.alloc _)
  have xB_3 : Bx (w2.alloc (.cells #[.slice p1 q1 r1, .slice p2 q2 r2, .slice p3 q3 r3] 26)) (w2.heap.size) #[.slice p1 q1 r1, .slice p2 q2 r2, .slice p3 q3 r3] := (Bx.new (b := w2.heap.size) _ #[.slice p1 q1 r1, .slice p2 q2 r2, .slice p3 q3 r3] 26 (by first | rfl | simp))
  have zz3 : w2.heap.size + 1 ≤ (w2.alloc (.cells #[.slice p1 q1 r1, .slice p2 q2 r2, .slice p3 q3 r3] 26)).heap.size := (by simp)
  clear cX_2 fX_2 zX_2 cY_2 fY_2 zY_2 cA_2 fA_2 zA_2
  generalize (w2.alloc (.cells #[.slice p1 q1 r1, .slice p2 q2 r2, .slice p3 q3 r3] 26)) = w3 at *
  obtain ⟨cX_3, fX_3, zX_3⟩ := xX_3.out
  obtain ⟨cY_3, fY_3, zY_3⟩ := xY_3.out
  obtain ⟨cA_3, fA_3, zA_3⟩ := xA_3.out
  obtain ⟨cB_3, fB_3, zB_3⟩ := xB_3.out
  go_loopw [11, 10] (fun s11 s10 wr => ∃ k : Nat, s11 = .int .i64 k ∧ s10 = .int .i64 (sgnK k) ∧ k ≤ m ∧ Hid (cmpP (plainS s) (plainS t) m = cmpG (decF (plainS s) (plainS t)) (m - k) k) ∧ Bx wr (w1.heap.size) #[.slice u1 v1 z1, .slice u2 v2 z2, .slice u3 v3 z3] ∧ Bx wr (w2.heap.size) #[.slice p1 q1 r1, .slice p2 q2 r2, .slice p3 q3 r3] ∧ SlS wr (.slice u1 v1 z1) (.slice u2 v2 z2) (.slice u3 v3 z3) (plainS s) ∧ SlS wr (.slice p1 q1 r1) (.slice p2 q2 r2) (.slice p3 q3 r3) (plainS t) ∧ Bl w wr) (fun s11 _ _ => m - (intOf s11).toNat)
  case atStart =>
    exact ⟨0, rfl, rfl, Nat.zero_le _, Lib.hid rfl, xA_3, xB_3, HA.out, HB.out, B3⟩
  case round =>
    rcases hrel with ⟨k, rfl, rfl, hkm, hG, yA, yB, HA2, HB2, Br⟩
    have HA2 := Lib.hid HA2
    have HB2 := Lib.hid HB2
    clear cX_3 fX_3 zX_3 cY_3 fY_3 zY_3 cA_3 fA_3 zA_3 cB_3 fB_3 zB_3
    obtain ⟨cA, fA, zA⟩ := yA.out
    obtain ⟨cB, fB, zB⟩ := yB.out
    have hsg : -1 ≤ sgnK k ∧ sgnK k ≤ 1 := by unfold sgnK; split <;> omega
    by_cases hk : k < m
    ·
      obtain ⟨⟨x, o⟩, hx⟩ : ∃ z, termP (plainS s) k = z := ⟨_, rfl⟩
      obtain ⟨⟨y, u⟩, hy⟩ : ∃ z, termP (plainS t) k = z := ⟨_, rfl⟩
      have HX := Lib.hid hx
      have HY := Lib.hid hy
      have HD := Lib.hid (show decF (plainS s) (plainS t) k = decT (x, o) (y, u) k by rw [decF, hx, hy])
      clear hx hy
      go_wp2_with fail
      refine (sterm_eqS HX.out _ _ HA2.out yA os.plain (by omega)).mono ?_
      rintro e wr1 ⟨rfl, hbr1⟩
      have Br1 : Bl w wr1 := bl_call Br hbr1
      have xA_r1 : Bx wr1 (w1.heap.size) #[.slice u1 v1 z1, .slice u2 v2 z2, .slice u3 v3 z3] := yA.below hbr1
      have xB_r1 : Bx wr1 (w2.heap.size) #[.slice p1 q1 r1, .slice p2 q2 r2, .slice p3 q3 r3] := yB.below hbr1
      clear cA fA zA cB fB zB
      obtain ⟨cA_r1, fA_r1, zA_r1⟩ := xA_r1.out
      obtain ⟨cB_r1, fB_r1, zB_r1⟩ := xB_r1.out
      go_wp2_with fail
      refine (sterm_eqS HY.out _ _ (HB2.out.below hbr1) xB_r1 ot.plain (by omega)).mono ?_
      rintro e wr2 ⟨rfl, hbr2⟩
      have Br2 : Bl w wr2 := bl_call Br1 hbr2
      have xA_r2 : Bx wr2 (w1.heap.size) #[.slice u1 v1 z1, .slice u2 v2 z2, .slice u3 v3 z3] := xA_r1.below hbr2
      have xB_r2 : Bx wr2 (w2.heap.size) #[.slice p1 q1 r1, .slice p2 q2 r2, .slice p3 q3 r3] := xB_r1.below hbr2
      clear cA_r1 fA_r1 zA_r1 cB_r1 fB_r1 zB_r1
      obtain ⟨cA_r2, fA_r2, zA_r2⟩ := xA_r2.out
      obtain ⟨cB_r2, fB_r2, zB_r2⟩ := xB_r2.out
      cases o with
      | false =>
        cases u with
        | false =>
          have HE := Lib.hid (cmpG_some hG.out hk (c := 0) (by rw [HD.out]; simp [decT]))
          go_wp2
          go_ret2
          exact ⟨ret_ii HE.out, Br2⟩
        | true =>
          have HE := Lib.hid (cmpG_some hG.out hk (c := sgnK k) (by rw [HD.out]; simp [decT]))
          go_wp2
          go_ret2
          exact ⟨ret_ii HE.out, Br2⟩
      | true =>
        cases u with
        | false =>
          have HE := Lib.hid (cmpG_some hG.out hk (c := -sgnK k) (by rw [HD.out]; simp [decT]))
          go_wp2
          go_ret2
          exact ⟨ret_ii HE.out, Br2⟩
        | true =>
          rcases Int.lt_trichotomy x y with hxy | hxy | hxy
          ·
            have HE := Lib.hid (cmpG_some hG.out hk (c := -sgnK k) (by rw [HD.out]; simp [decT, hxy]))
            go_wp2
            go_ret2
            exact ⟨ret_ii HE.out, Br2⟩
          ·
            subst hxy
            have HE := Lib.hid (cmpG_none hG.out hk (by rw [HD.out]; simp [decT]))
            have hsn := Lib.hid (sgnK_succ k)
            go_wp2
            go_roundw
            case rel => exact ⟨k + 1, by go_num, by rw [hsn.out], by omega, HE, xA_r2, xB_r2, (HA2.out.below hbr1).below hbr2, (HB2.out.below hbr1).below hbr2, Br2⟩
            case measure => clear HE; simp only [intOf, Int.toNat_natCast]; omega
          ·
            have hyx : ¬ x < y := by omega
            have HE := Lib.hid (cmpG_some hG.out hk (c := sgnK k) (by rw [HD.out]; simp [decT, hxy, hyx]))
            go_wp2
            go_ret2
            exact ⟨ret_ii HE.out, Br2⟩
    ·
      have HE := Lib.hid (cmpG_end hG.out hk)
      go_wp2
      go_ret2
      exact ⟨ret_ii HE.out, Br⟩

end Go.Proofs.Ytgmofofokhlhnaa
