/- Some of the texts of this claim, joined in one file: EqM, SameT. -/
import Derived.Test.YtgkelemfbmmgnaaTerm
import Derived.Test.YtgkelemfbmmgnaaMO4
/- Equal terms for ever: plain laws. Each theorem names its conditions. -/
namespace Go.Proofs.Ytgkelemfbmmgnaa
set_option linter.unusedVariables false
set_option linter.unusedSimpArgs false

theorem termP_far {s : Src} (hp : s.P.length ≠ 0) (m r q j : Nat) (hm : s.H.length ≤ m) :
    termP s (m + r + s.P.length * q * j) = ((termP s (m + r)).1 + (j : Int) * ((q : Int) * s.G.getD ((m + r - s.H.length) % s.P.length) 0), true) := by
  have hpos : 0 < s.P.length := by omega
  have e0 : m + r + s.P.length * q * j - s.H.length = (m + r - s.H.length) + s.P.length * (q * j) := by
    rw [Nat.mul_assoc]; omega
  rw [termP, if_neg (by omega), if_neg hp, termP, if_neg (by omega), if_neg hp, e0, Nat.add_mul_mod_self_left, Nat.add_mul_div_left _ _ hpos]
  simp only [Prod.mk.injEq, and_true]
  generalize (m + r - s.H.length) / s.P.length = c
  generalize s.G.getD ((m + r - s.H.length) % s.P.length) 0 = g
  generalize s.P.getD ((m + r - s.H.length) % s.P.length) 0 = t
  push_cast
  grind
theorem termP_none {s : Src} (hp : s.P.length = 0) {k : Nat} (hk : s.H.length ≤ k) : termP s k = (0, false) := by
  rw [termP, if_neg (by omega), if_pos hp]
theorem termP_some {s : Src} (hp : s.P.length ≠ 0) (k : Nat) : (termP s k).2 = true := by
  rw [termP, if_neg hp]
  split <;> rfl
/-- What holds of two rounds of both periods holds of all. -/
theorem equal_all {s t : Src} {N : Nat} (h1 : max s.H.length t.H.length + 2 * (s.P.length * t.P.length) ≤ N) (h2 : max s.H.length t.H.length < N) (h : ∀ k, k < N → termP s k = termP t k) : ∀ k, termP s k = termP t k := by
  intro k
  rcases Nat.lt_or_ge k N with hk | hk
  · exact h k hk
  by_cases p0 : s.P.length = 0
  · by_cases q0 : t.P.length = 0
    · rw [termP_none p0 (by omega), termP_none q0 (by omega)]
    · have := h (max s.H.length t.H.length) h2
      have e := termP_some q0 (max s.H.length t.H.length)
      rw [← this, termP_none p0 (by omega)] at e
      cases e
  · by_cases q0 : t.P.length = 0
    · have := h (max s.H.length t.H.length) h2
      have e := termP_some p0 (max s.H.length t.H.length)
      rw [this, termP_none q0 (by omega)] at e
      cases e
    · obtain ⟨m, hm⟩ : ∃ m, m = max s.H.length t.H.length := ⟨_, rfl⟩
      obtain ⟨M, hM⟩ : ∃ M, M = s.P.length * t.P.length := ⟨_, rfl⟩
      have hMp : 0 < M := by rw [hM]; exact Nat.mul_pos (by omega) (by omega)
      rw [← hm, ← hM] at h1
      obtain ⟨r, j, hr, rfl⟩ : ∃ r j, r < M ∧ k = m + r + M * j := ⟨(k - m) % M, (k - m) / M, Nat.mod_lt _ hMp, by have := Nat.mod_add_div (k - m) M; omega⟩
      have a0 := h (m + r) (by omega)
      have a1 := h (m + r + M * 1) (by omega)
      have x1 := termP_far p0 m r t.P.length 1 (by omega)
      have xj := termP_far p0 m r t.P.length j (by omega)
      have y1 := termP_far q0 m r s.P.length 1 (by omega)
      have yj := termP_far q0 m r s.P.length j (by omega)
      rw [← hM] at x1 xj
      rw [Nat.mul_comm t.P.length s.P.length, ← hM] at y1 yj
      rw [x1, y1, a0] at a1
      simp only [Prod.mk.injEq, and_true] at a1
      rw [xj, yj, a0]
      simp only [Prod.mk.injEq, and_true]
      have e : (t.P.length : Int) * s.G.getD ((m + r - s.H.length) % s.P.length) 0 = (s.P.length : Int) * t.G.getD ((m + r - t.H.length) % t.P.length) 0 := by
        have : ((1 : Nat) : Int) = 1 := rfl
        rw [this] at a1
        omega
      rw [e]

end Go.Proofs.Ytgkelemfbmmgnaa

/- SameTerms: the program and the reference give the same. No condition. -/
namespace Go.Proofs.Ytgkelemfbmmgnaa
open Go.RowKit
set_option linter.unusedVariables false
set_option linter.unusedSimpArgs false

theorem Bx.set5 {w : World} {b : Nat} (h : Bx w b #[.slice none 0 0, .slice none 0 0, .slice none 0 0, .slice none 0 0, .bool false]) (v0 v1 v2 v3 v4 : Value) :
    Bx (((((w.setCell ⟨b, 0, none⟩ v0).setCell ⟨b, 1, none⟩ v1).setCell ⟨b, 2, none⟩ v2).setCell ⟨b, 3, none⟩ v3).setCell ⟨b, 4, none⟩ v4) b #[v0, v1, v2, v3, v4] :=
  ((((h.set 0 v0).set 1 v1).set 2 v2).set 3 v3).set 4 v4
theorem Bx.far5 {w : World} {b q : Nat} {cs : Array Value} (h : Bx w b cs) (hq : q ≠ b) (v0 v1 v2 v3 v4 : Value) :
    Bx (((((w.setCell ⟨q, 0, none⟩ v0).setCell ⟨q, 1, none⟩ v1).setCell ⟨q, 2, none⟩ v2).setCell ⟨q, 3, none⟩ v3).setCell ⟨q, 4, none⟩ v4) b cs :=
  ((((h.far hq v0).far hq v1).far hq v2).far hq v3).far hq v4
theorem Sl.farBx {w : World} {v : Value} {xs : List Int} {q : Nat} (h : Sl w v xs) (hz : Bx w q #[.slice none 0 0, .slice none 0 0, .slice none 0 0, .slice none 0 0, .bool false]) (j : Nat) (u : Value) : Sl (w.setCell ⟨q, j, none⟩ u) v xs ∧ (xs = [] ∨ v.ownBlock ≠ some q) := by
  have hne : xs = [] ∨ v.ownBlock ≠ some q := by
    obtain ⟨a, cap, rfl, h1, h2, h3, h4, h5⟩ := h
    rcases h5 with h5 | ⟨b, off, rfl, hc⟩
    · exact .inl h5
    · rcases xs with _ | ⟨x, xs⟩
      · exact .inl rfl
      · refine .inr fun e => ?_
        simp [Value.ownBlock] at e
        subst e
        have c := hc 0 x rfl
        rw [hz.out.1] at c
        match h6 : off + 0, c with
        | 0, c => simp at c
        | 1, c => simp at c
        | 2, c => simp at c
        | 3, c => simp at c
        | 4, c => simp at c
        | n + 5, c => simp at c
  exact ⟨h.grown (row := some q) ⟨rfl, rfl, rfl, by simp, fun k hk hn => Below.heap_setCell w ⟨q, j, none⟩ u k (fun e => hn (by rw [e]))⟩ hne, hne⟩
theorem Sl.far5 {w : World} {v : Value} {xs : List Int} {q : Nat} (h : Sl w v xs) (hz : Bx w q #[.slice none 0 0, .slice none 0 0, .slice none 0 0, .slice none 0 0, .bool false]) (v0 v1 v2 v3 v4 : Value) :
    Sl (((((w.setCell ⟨q, 0, none⟩ v0).setCell ⟨q, 1, none⟩ v1).setCell ⟨q, 2, none⟩ v2).setCell ⟨q, 3, none⟩ v3).setCell ⟨q, 4, none⟩ v4) v xs := by
  have hne := (h.farBx hz 0 v0).2
  have st : ∀ (W : World) (j : Nat) (u : Value), Sl W v xs → Sl (W.setCell ⟨q, j, none⟩ u) v xs := fun W j u h =>
    h.grown (row := some q) ⟨rfl, rfl, rfl, by simp, fun k hk hn => Below.heap_setCell W ⟨q, j, none⟩ u k (fun e => hn (by rw [e]))⟩ hne
  exact st _ _ _ (st _ _ _ (st _ _ _ (st _ _ _ (st _ _ _ h))))
theorem ShS.far5 {w : World} {a1 : Option Addr} {n1 c1 : Nat} {a2 : Option Addr} {n2 c2 : Nat} {a3 : Option Addr} {n3 c3 : Nat} {a4 : Option Addr} {n4 c4 : Nat} {b : Bool} {s : Src} {q : Nat} (x : ShS w a1 n1 c1 a2 n2 c2 a3 n3 c3 a4 n4 c4 b s) (hz : Bx w q #[.slice none 0 0, .slice none 0 0, .slice none 0 0, .slice none 0 0, .bool false]) (v0 v1 v2 v3 v4 : Value) :
    ShS (((((w.setCell ⟨q, 0, none⟩ v0).setCell ⟨q, 1, none⟩ v1).setCell ⟨q, 2, none⟩ v2).setCell ⟨q, 3, none⟩ v3).setCell ⟨q, 4, none⟩ v4) a1 n1 c1 a2 n2 c2 a3 n3 c3 a4 n4 c4 b s := by
  obtain ⟨o, x⟩ := x
  refine ⟨o, ?_⟩
  rcases x with ⟨h1, e, a⟩ | ⟨h1, e, a⟩
  · exact .inl ⟨h1, e, a.1.far5 hz _ _ _ _ _, a.2.1.far5 hz _ _ _ _ _, a.2.2.far5 hz _ _ _ _ _⟩
  · exact .inr ⟨h1, e, a.far5 hz _ _ _ _ _⟩
theorem ShS.alloc {w : World} {a1 : Option Addr} {n1 c1 : Nat} {a2 : Option Addr} {n2 c2 : Nat} {a3 : Option Addr} {n3 c3 : Nat} {a4 : Option Addr} {n4 c4 : Nat} {b : Bool} {s : Src} (x : ShS w a1 n1 c1 a2 n2 c2 a3 n3 c3 a4 n4 c4 b s) (o : Obj) : ShS (w.alloc o) a1 n1 c1 a2 n2 c2 a3 n3 c3 a4 n4 c4 b s := x.below (bl_alloc (bl_refl _) o)
/-- Do the terms at a place agree? -/
def eqT (s t : Src) (k : Nat) : Bool := (termP s k).2 && (termP t k).2 && decide ((termP s k).1 = (termP t k).1)
/-- The first place among n from k on that does not agree, or the end. -/
def cntG (f : Nat → Bool) : Nat → Nat → Nat
  | 0, k => k
  | n + 1, k => if f k then cntG f n (k + 1) else k
theorem cntG_no {f : Nat → Bool} {m k C : Nat} (h : C = cntG f (m - k) k) (hk : k < m) (hf : f k = false) : k = C := by
  rw [h, show m - k = (m - (k + 1)) + 1 by omega, cntG, hf]; rfl
theorem cntG_yes {f : Nat → Bool} {m k C : Nat} (h : C = cntG f (m - k) k) (hk : k < m) (hf : f k = true) : C = cntG f (m - (k + 1)) (k + 1) := by
  rw [h, show m - k = (m - (k + 1)) + 1 by omega, cntG, hf]; rfl
theorem cntG_end {f : Nat → Bool} {m k C : Nat} (h : C = cntG f (m - k) k) (hk : ¬ k < m) : k = C := by
  rw [h, show m - k = 0 by omega, cntG]

noncomputable def sameF (s t : Src) (m : Int) : Int × Int := if code17 s t m = 0 then (((cntG (eqT (plainS s) (plainS t)) m.toNat 0 : Nat) : Int), (0 : Int)) else (0, code17 s t m)

set_option maxRecDepth 100000 in
set_option maxHeartbeats 3200000 in
theorem impl_SameTerms (h p g : Value) (s : Src) (h' p' g' : Value) (t : Src) (m : Int) (w : World) (hs : SlS w h p g s) (ht : SlS w h' p' g' t) :
    Calls Try.prog 18 #[.agg #[h, p, g], .agg #[h', p', g'], .int .i64 m] w fun e w' => e = .returned (.tuple #[.int .i64 (sameF s t m).1, .int .i64 (sameF s t m).2]) ∧ Bl w w' := by
  cases e1 : okSrc s with
  | false =>
    have hcd : code17 s t m = 1 := by simp [code17, e1]
    have HR := Lib.hid (show sameF s t m = (0, 1) by rw [sameF, if_neg (by omega), hcd])
    clear hcd
    have E1 := Lib.hid e1
    clear e1
    go_enter Try.func18, Try.ntmps18
    go_wp2_with fail
    refine (ivalid_eqL E1.out _ (hs.below (bl_alloc (bl_alloc (bl_refl _) _) _))).mono ?_
    rintro e w1 ⟨rfl, hb1⟩
    have B1 : Bl w w1 := bl_call (bl_alloc (bl_alloc (bl_refl _) _) _) hb1
    have xF_1 : Bx w1 (w.heap.size) #[h, p, g] := ((Bx.new (b := w.heap.size) _ #[h, p, g] 26 (by first | rfl | simp)).alloc _).below hb1
    have xG_1 : Bx w1 (w.heap.size + 1) #[h', p', g'] := (Bx.new (b := w.heap.size + 1) _ #[h', p', g'] 26 (by first | rfl | simp)).below hb1
    obtain ⟨cF_1, fF_1, zF_1⟩ := xF_1.out
    obtain ⟨cG_1, fG_1, zG_1⟩ := xG_1.out
    go_wp2
    go_ret2
    exact ⟨ret_ii2 HR.out, B1⟩
  | true =>
    cases e2 : okSrc t with
    | false =>
      have hcd : code17 s t m = 1 := by simp [code17, e1, e2]
      have HR := Lib.hid (show sameF s t m = (0, 1) by rw [sameF, if_neg (by omega), hcd])
      clear hcd
      have E1 := Lib.hid e1
      clear e1
      have E2 := Lib.hid e2
      clear e2
      go_enter Try.func18, Try.ntmps18
      go_wp2_with fail
      refine (ivalid_eqL E1.out _ (hs.below (bl_alloc (bl_alloc (bl_refl _) _) _))).mono ?_
      rintro e w1 ⟨rfl, hb1⟩
      have B1 : Bl w w1 := bl_call (bl_alloc (bl_alloc (bl_refl _) _) _) hb1
      have xF_1 : Bx w1 (w.heap.size) #[h, p, g] := ((Bx.new (b := w.heap.size) _ #[h, p, g] 26 (by first | rfl | simp)).alloc _).below hb1
      have xG_1 : Bx w1 (w.heap.size + 1) #[h', p', g'] := (Bx.new (b := w.heap.size + 1) _ #[h', p', g'] 26 (by first | rfl | simp)).below hb1
      obtain ⟨cF_1, fF_1, zF_1⟩ := xF_1.out
      obtain ⟨cG_1, fG_1, zG_1⟩ := xG_1.out
      go_wp2_with fail
      refine (ivalid_eqL E2.out _ (ht.below B1)).mono ?_
      rintro e w2 ⟨rfl, hb2⟩
      have B2 : Bl w w2 := bl_call B1 hb2
      have xF_2 : Bx w2 (w.heap.size) #[h, p, g] := xF_1.below hb2
      have xG_2 : Bx w2 (w.heap.size + 1) #[h', p', g'] := xG_1.below hb2
      clear cF_1 fF_1 zF_1 cG_1 fG_1 zG_1
      obtain ⟨cF_2, fF_2, zF_2⟩ := xF_2.out
      obtain ⟨cG_2, fG_2, zG_2⟩ := xG_2.out
      go_wp2
      go_ret2
      exact ⟨ret_ii2 HR.out, B2⟩
    | true =>
      cases e3 : inB m 1 1000 with
      | false =>
        have hcd : code17 s t m = 2 := by simp [code17, e1, e2, e3]
        have HR := Lib.hid (show sameF s t m = (0, 2) by rw [sameF, if_neg (by omega), hcd])
        clear hcd
        have E1 := Lib.hid e1
        clear e1
        have E2 := Lib.hid e2
        clear e2
        have E3 := Lib.hid e3
        clear e3
        go_enter Try.func18, Try.ntmps18
        go_wp2_with fail
        refine (ivalid_eqL E1.out _ (hs.below (bl_alloc (bl_alloc (bl_refl _) _) _))).mono ?_
        rintro e w1 ⟨rfl, hb1⟩
        have B1 : Bl w w1 := bl_call (bl_alloc (bl_alloc (bl_refl _) _) _) hb1
        have xF_1 : Bx w1 (w.heap.size) #[h, p, g] := ((Bx.new (b := w.heap.size) _ #[h, p, g] 26 (by first | rfl | simp)).alloc _).below hb1
        have xG_1 : Bx w1 (w.heap.size + 1) #[h', p', g'] := (Bx.new (b := w.heap.size + 1) _ #[h', p', g'] 26 (by first | rfl | simp)).below hb1
        obtain ⟨cF_1, fF_1, zF_1⟩ := xF_1.out
        obtain ⟨cG_1, fG_1, zG_1⟩ := xG_1.out
        go_wp2_with fail
        refine (ivalid_eqL E2.out _ (ht.below B1)).mono ?_
        rintro e w2 ⟨rfl, hb2⟩
        have B2 : Bl w w2 := bl_call B1 hb2
        have xF_2 : Bx w2 (w.heap.size) #[h, p, g] := xF_1.below hb2
        have xG_2 : Bx w2 (w.heap.size + 1) #[h', p', g'] := xG_1.below hb2
        clear cF_1 fF_1 zF_1 cG_1 fG_1 zG_1
        obtain ⟨cF_2, fF_2, zF_2⟩ := xF_2.out
        obtain ⟨cG_2, fG_2, zG_2⟩ := xG_2.out
        go_wp2_with fail
        refine (isMost_eq E3.out _).mono ?_
        rintro e w9 ⟨rfl, rfl⟩
        go_wp2
        go_ret2
        exact ⟨ret_ii2 HR.out, B2⟩
      | true =>
        have hcd : code17 s t m = 0 := by simp [code17, e1, e2, e3]
        have HR := Lib.hid (show sameF s t m = (((cntG (eqT (plainS s) (plainS t)) m.toNat 0 : Nat) : Int), (0 : Int)) by rw [sameF, if_pos hcd])
        have hm := inB_iff.1 e3
        obtain ⟨M, rfl⟩ := Int.eq_ofNat_of_zero_le (show 0 ≤ m by omega)
        rw [Int.toNat_natCast] at HR
        have K1 := okSrc_H e1
        have K2 := okSrc_H e2
        clear hcd
        have E1 := Lib.hid e1
        clear e1
        have E2 := Lib.hid e2
        clear e2
        have E3 := Lib.hid e3
        clear e3
        go_enter Try.func18, Try.ntmps18
        go_wp2_with fail
        refine (ivalid_eqL E1.out _ (hs.below (bl_alloc (bl_alloc (bl_refl _) _) _))).mono ?_
        rintro e w1 ⟨rfl, hb1⟩
        have B1 : Bl w w1 := bl_call (bl_alloc (bl_alloc (bl_refl _) _) _) hb1
        have xF_1 : Bx w1 (w.heap.size) #[h, p, g] := ((Bx.new (b := w.heap.size) _ #[h, p, g] 26 (by first | rfl | simp)).alloc _).below hb1
        have xG_1 : Bx w1 (w.heap.size + 1) #[h', p', g'] := (Bx.new (b := w.heap.size + 1) _ #[h', p', g'] 26 (by first | rfl | simp)).below hb1
        obtain ⟨cF_1, fF_1, zF_1⟩ := xF_1.out
        obtain ⟨cG_1, fG_1, zG_1⟩ := xG_1.out
        go_wp2_with fail
        refine (ivalid_eqL E2.out _ (ht.below B1)).mono ?_
        rintro e w2 ⟨rfl, hb2⟩
        have B2 : Bl w w2 := bl_call B1 hb2
        have xF_2 : Bx w2 (w.heap.size) #[h, p, g] := xF_1.below hb2
        have xG_2 : Bx w2 (w.heap.size + 1) #[h', p', g'] := xG_1.below hb2
        clear cF_1 fF_1 zF_1 cG_1 fG_1 zG_1
        obtain ⟨cF_2, fF_2, zF_2⟩ := xF_2.out
        obtain ⟨cG_2, fG_2, zG_2⟩ := xG_2.out
        go_wp2_with fail
        refine (isMost_eq E3.out _).mono ?_
        rintro e w9 ⟨rfl, rfl⟩
        go_wp2_with fail
        go_cut [8, 9] (fun s8 s9 wx => ∃ (q8 q9 : Nat) (ax1 : Option Addr) (nx1 cx1 : Nat) (ax2 : Option Addr) (nx2 cx2 : Nat) (ax3 : Option Addr) (nx3 cx3 : Nat) (ax4 : Option Addr) (nx4 cx4 : Nat) (fx : Bool) (ay1 : Option Addr) (ny1 cy1 : Nat) (ay2 : Option Addr) (ny2 cy2 : Nat) (ay3 : Option Addr) (ny3 cy3 : Nat) (ay4 : Option Addr) (ny4 cy4 : Nat) (fy : Bool), s8 = .pointer (some ⟨q8, 0, none⟩) ∧ s9 = .pointer (some ⟨q9, 0, none⟩) ∧ Bx wx q8 #[.slice ax1 nx1 cx1, .slice ax2 nx2 cx2, .slice ax3 nx3 cx3, .slice ax4 nx4 cx4, .bool fx] ∧ Bx wx q9 #[.slice ay1 ny1 cy1, .slice ay2 ny2 cy2, .slice ay3 ny3 cy3, .slice ay4 ny4 cy4, .bool fy] ∧ ShS wx ax1 nx1 cx1 ax2 nx2 cx2 ax3 nx3 cx3 ax4 nx4 cx4 fx (plainS s) ∧ ShS wx ay1 ny1 cy1 ay2 ny2 cy2 ay3 ny3 cy3 ay4 ny4 cy4 fy (plainS t) ∧ Bl w2 wx)
        case first =>
          have BB := bl_drew (bl_refl w2)
          go_region_held3 (fun w' => w'.cell? ⟨w.heap.size, 0, none⟩ = some (h) ∧ w'.cell? ⟨w.heap.size, 1, none⟩ = some (p) ∧ w'.cell? ⟨w.heap.size, 2, none⟩ = some (g) ∧ w'.cell? ⟨w.heap.size + 1, 0, none⟩ = some (h') ∧ w'.cell? ⟨w.heap.size + 1, 1, none⟩ = some (p') ∧ w'.cell? ⟨w.heap.size + 1, 2, none⟩ = some (g')) (first | (simp [*]; done) | (go_simp; done) | go_keep)
            (first | (go_at_call_of 42 h; go_must (refine (shortOf_any h p g s _ ((hs.below B2).below (by first | exact BB | exact bl_alloc BB _ | exact bl_alloc (bl_alloc BB _) _)) K1).mono ?_; rintro e u1 ⟨ax1, nx1, cx1, ax2, nx2, cx2, ax3, nx3, cx3, ax4, nx4, cx4, fx, rfl, H1, hu1⟩; have BB : Bl w2 u1 := bl_call (by first | exact BB | exact bl_alloc BB _ | exact bl_alloc (bl_alloc BB _) _) hu1; have zu1 := hu1.size; (try simp at zu1); obtain ⟨c0_1, f0_1, z0_1⟩ := (xF_2.below BB).out; obtain ⟨c1_1, f1_1, z1_1⟩ := (xG_2.below BB).out; (first | (have nA := ((Bx.new (b := w2.heap.size) w2 #[.slice none 0 0, .slice none 0 0, .slice none 0 0, .slice none 0 0, .bool false] 71 rfl).alloc (.cells #[.slice none 0 0, .slice none 0 0, .slice none 0 0, .slice none 0 0, .bool false] 71)).drew.below hu1; have nB := (Bx.new (b := w2.heap.size + 1) (w2.alloc (.cells #[.slice none 0 0, .slice none 0 0, .slice none 0 0, .slice none 0 0, .bool false] 71)) #[.slice none 0 0, .slice none 0 0, .slice none 0 0, .slice none 0 0, .bool false] 71 (by simp)).drew.below hu1; obtain ⟨cnA, fnA, znA⟩ := nA.out; obtain ⟨cnB, fnB, znB⟩ := nB.out) | (have nA := (Bx.new (b := w2.heap.size) w2 #[.slice none 0 0, .slice none 0 0, .slice none 0 0, .slice none 0 0, .bool false] 71 rfl).drew.below hu1; obtain ⟨cnA, fnA, znA⟩ := nA.out) | skip))) | (go_at_call_of 42 h'; go_must (refine (shortOf_any h' p' g' t _ ((ht.below B2).below (by first | exact BB | exact bl_alloc BB _ | exact bl_alloc (bl_alloc BB _) _)) K2).mono ?_; rintro e u2 ⟨ay1, ny1, cy1, ay2, ny2, cy2, ay3, ny3, cy3, ay4, ny4, cy4, fy, rfl, H2, hu2⟩; have BB : Bl w2 u2 := bl_call (by first | exact BB | exact bl_alloc BB _ | exact bl_alloc (bl_alloc BB _) _) hu2; have zu2 := hu2.size; (try simp at zu2); obtain ⟨c0_2, f0_2, z0_2⟩ := (xF_2.below BB).out; obtain ⟨c1_2, f1_2, z1_2⟩ := (xG_2.below BB).out; (first | (have H1 := H1.below hu2) | (have H1 := (H1.alloc _).below hu2) | (have H1 := ((H1.alloc _).alloc _).below hu2)); (first | (have nA := nA.below hu2; obtain ⟨cnA, fnA, znA⟩ := nA.out) | (have nA := (nA.alloc _).below hu2; obtain ⟨cnA, fnA, znA⟩ := nA.out) | skip); (first | (have nB := nB.below hu2; obtain ⟨cnB, fnB, znB⟩ := nB.out) | (have nB := (nB.alloc _).below hu2; obtain ⟨cnB, fnB, znB⟩ := nB.out) | skip); (first | (have nC := ((Bx.new (b := u1.heap.size) u1 #[.slice none 0 0, .slice none 0 0, .slice none 0 0, .slice none 0 0, .bool false] 71 rfl).alloc (.cells #[.slice none 0 0, .slice none 0 0, .slice none 0 0, .slice none 0 0, .bool false] 71)).below hu2; have nD := (Bx.new (b := u1.heap.size + 1) (u1.alloc (.cells #[.slice none 0 0, .slice none 0 0, .slice none 0 0, .slice none 0 0, .bool false] 71)) #[.slice none 0 0, .slice none 0 0, .slice none 0 0, .slice none 0 0, .bool false] 71 (by simp)).below hu2; obtain ⟨cnC, fnC, znC⟩ := nC.out; obtain ⟨cnD, fnD, znD⟩ := nD.out) | (have nC := (Bx.new (b := u1.heap.size) u1 #[.slice none 0 0, .slice none 0 0, .slice none 0 0, .slice none 0 0, .bool false] 71 rfl).below hu2; obtain ⟨cnC, fnC, znC⟩ := nC.out) | skip))))
          all_goals (go_wp2_with fail; go_meet)
          all_goals (refine ⟨_, _, ax1, nx1, cx1, ax2, nx2, cx2, ax3, nx3, cx3, ax4, nx4, cx4, fx, ay1, ny1, cy1, ay2, ny2, cy2, ay3, ny3, cy3, ay4, ny4, cy4, fy, rfl, rfl, ?_, ?_, ?_, ?_, ?_⟩; (try simp at zu1); (try simp at zu2); (· (repeat' first | (with_reducible exact nA) | (with_reducible exact nB) | (with_reducible exact nC) | (with_reducible exact nD) | (with_reducible refine Bx.set5 ?_ _ _ _ _ _) | (with_reducible refine Bx.far5 ?_ ?_ _ _ _ _ _) | ((with_reducible refine Bx.new _ _ _ ?_); (simp; done)) | (with_reducible refine Bx.alloc ?_ _) | ((with_reducible refine Nat.ne_of_lt ?_); omega) | ((with_reducible refine Nat.ne_of_gt ?_); omega))); (· (repeat' first | (with_reducible exact nA) | (with_reducible exact nB) | (with_reducible exact nC) | (with_reducible exact nD) | (with_reducible refine Bx.set5 ?_ _ _ _ _ _) | (with_reducible refine Bx.far5 ?_ ?_ _ _ _ _ _) | ((with_reducible refine Bx.new _ _ _ ?_); (simp; done)) | (with_reducible refine Bx.alloc ?_ _) | ((with_reducible refine Nat.ne_of_lt ?_); omega) | ((with_reducible refine Nat.ne_of_gt ?_); omega))); (· (repeat' first | (with_reducible exact H1) | (with_reducible exact H2) | (with_reducible refine ShS.far5 ?_ ?_ _ _ _ _ _) | (with_reducible refine ShS.alloc ?_ _) | (with_reducible exact nA) | (with_reducible exact nB) | (with_reducible exact nC) | (with_reducible exact nD) | (with_reducible refine Bx.set5 ?_ _ _ _ _ _) | (with_reducible refine Bx.far5 ?_ ?_ _ _ _ _ _) | ((with_reducible refine Bx.new _ _ _ ?_); (simp; done)) | (with_reducible refine Bx.alloc ?_ _) | ((with_reducible refine Nat.ne_of_lt ?_); omega) | ((with_reducible refine Nat.ne_of_gt ?_); omega))); (· (repeat' first | (with_reducible exact H1) | (with_reducible exact H2) | (with_reducible refine ShS.far5 ?_ ?_ _ _ _ _ _) | (with_reducible refine ShS.alloc ?_ _) | (with_reducible exact nA) | (with_reducible exact nB) | (with_reducible exact nC) | (with_reducible exact nD) | (with_reducible refine Bx.set5 ?_ _ _ _ _ _) | (with_reducible refine Bx.far5 ?_ ?_ _ _ _ _ _) | ((with_reducible refine Bx.new _ _ _ ?_); (simp; done)) | (with_reducible refine Bx.alloc ?_ _) | ((with_reducible refine Nat.ne_of_lt ?_); omega) | ((with_reducible refine Nat.ne_of_gt ?_); omega))); (· (repeat first | (with_reducible exact BB) | (with_reducible refine bl_alloc ?_ _) | (with_reducible refine bl_set ?_ (by first | exact Nat.le_refl _ | exact Nat.le_succ _ | (first | omega | (simp; done) | (simp; omega))) _))))
        case rest =>
          obtain ⟨q8, q9, ax1, nx1, cx1, ax2, nx2, cx2, ax3, nx3, cx3, ax4, nx4, cx4, fx, ay1, ny1, cy1, ay2, ny2, cy2, ay3, ny3, cy3, ay4, ny4, cy4, fy, rfl, rfl, xX, xY, HX, HY, hj⟩ := hcut
          obtain ⟨w5, rfl⟩ : ∃ x : World, x = wc := ⟨_, rfl⟩
          have B5 : Bl w w5 := bl_call B2 hj
          have HX := Lib.hid HX
          have HY := Lib.hid HY
          clear cF_2 fF_2 zF_2 cG_2 fG_2 zG_2
          obtain ⟨cX, fX, zX⟩ := xX.out
          obtain ⟨cY, fY, zY⟩ := xY.out
          obtain ⟨C, hC⟩ : ∃ C, C = cntG (eqT (plainS s) (plainS t)) M 0 := ⟨_, rfl⟩
          rw [← hC] at HR
          have HC := Lib.hid hC
          clear hC
          go_wp2_with fail
          go_loopw [10] (fun s10 wr => ∃ k : Nat, s10 = .int .i64 k ∧ k ≤ M ∧ Hid (C = cntG (eqT (plainS s) (plainS t)) (M - k) k) ∧ Bx wr (q8) #[.slice ax1 nx1 cx1, .slice ax2 nx2 cx2, .slice ax3 nx3 cx3, .slice ax4 nx4 cx4, .bool fx] ∧ Bx wr (q9) #[.slice ay1 ny1 cy1, .slice ay2 ny2 cy2, .slice ay3 ny3 cy3, .slice ay4 ny4 cy4, .bool fy] ∧ ShS wr ax1 nx1 cx1 ax2 nx2 cx2 ax3 nx3 cx3 ax4 nx4 cx4 fx (plainS s) ∧ ShS wr ay1 ny1 cy1 ay2 ny2 cy2 ay3 ny3 cy3 ay4 ny4 cy4 fy (plainS t) ∧ Bl w wr) (fun s10 _ => M - (intOf s10).toNat)
          case atStart => exact ⟨0, rfl, Nat.zero_le _, HC, xX, xY, HX.out, HY.out, B5⟩
          case round =>
            rcases hrel with ⟨k, rfl, hkm, hG, yX, yY, sX, sY, Br⟩
            have SX := Lib.hid sX
            have SY := Lib.hid sY
            clear sX sY cX fX zX cY fY zY
            obtain ⟨cX, fX, zX⟩ := yX.out
            obtain ⟨cY, fY, zY⟩ := yY.out
            by_cases hk : k < M
            ·
              obtain ⟨⟨x, o⟩, hx⟩ : ∃ z, termP (plainS s) k = z := ⟨_, rfl⟩
              obtain ⟨⟨y, u⟩, hy⟩ : ∃ z, termP (plainS t) k = z := ⟨_, rfl⟩
              have TX := Lib.hid hx
              have TY := Lib.hid hy
              have HD := Lib.hid (show eqT (plainS s) (plainS t) k = (o && u && decide (x = y)) by rw [eqT, hx, hy])
              clear hx hy
              go_wp2_with fail
              refine (at_eq TX.out _ SX.out (by omega)).mono ?_
              rintro e wr1 ⟨rfl, hbr1⟩
              have Br1 : Bl w wr1 := bl_call Br hbr1
              have xX_r1 : Bx wr1 (q8) #[.slice ax1 nx1 cx1, .slice ax2 nx2 cx2, .slice ax3 nx3 cx3, .slice ax4 nx4 cx4, .bool fx] := yX.below hbr1
              have xY_r1 : Bx wr1 (q9) #[.slice ay1 ny1 cy1, .slice ay2 ny2 cy2, .slice ay3 ny3 cy3, .slice ay4 ny4 cy4, .bool fy] := yY.below hbr1
              clear cX fX zX cY fY zY
              obtain ⟨cX_r1, fX_r1, zX_r1⟩ := xX_r1.out
              obtain ⟨cY_r1, fY_r1, zY_r1⟩ := xY_r1.out
              go_wp2_with fail
              refine (at_eq TY.out _ (SY.out.below hbr1) (by omega)).mono ?_
              rintro e wr2 ⟨rfl, hbr2⟩
              have Br2 : Bl w wr2 := bl_call Br1 hbr2
              have xX_r2 : Bx wr2 (q8) #[.slice ax1 nx1 cx1, .slice ax2 nx2 cx2, .slice ax3 nx3 cx3, .slice ax4 nx4 cx4, .bool fx] := xX_r1.below hbr2
              have xY_r2 : Bx wr2 (q9) #[.slice ay1 ny1 cy1, .slice ay2 ny2 cy2, .slice ay3 ny3 cy3, .slice ay4 ny4 cy4, .bool fy] := xY_r1.below hbr2
              clear cX_r1 fX_r1 zX_r1 cY_r1 fY_r1 zY_r1
              obtain ⟨cX_r2, fX_r2, zX_r2⟩ := xX_r2.out
              obtain ⟨cY_r2, fY_r2, zY_r2⟩ := xY_r2.out
              cases o with
              | false =>
                have HE := Lib.hid (cntG_no hG.out hk (by rw [HD.out]; simp))
                go_wp2
                go_ret2
                exact ⟨ret_ii2 (by rw [HR.out, HE.out]), Br2⟩
              | true =>
                cases u with
                | false =>
                  have HE := Lib.hid (cntG_no hG.out hk (by rw [HD.out]; simp))
                  go_wp2
                  go_ret2
                  exact ⟨ret_ii2 (by rw [HR.out, HE.out]), Br2⟩
                | true =>
                  by_cases hxy : x = y
                  · subst hxy
                    have HE := Lib.hid (cntG_yes hG.out hk (by rw [HD.out]; simp))
                    go_wp2
                    go_roundw
                    case rel => exact ⟨k + 1, by go_num, by omega, HE, xX_r2, xY_r2, (SX.out.below hbr1).below hbr2, (SY.out.below hbr1).below hbr2, Br2⟩
                    case measure => clear HE; simp only [intOf, Int.toNat_natCast]; omega
                  ·
                    have hb : (x != y) = true := by simp [hxy]
                    have HE := Lib.hid (cntG_no hG.out hk (by rw [HD.out]; simp [hxy]))
                    clear hxy
                    go_wp2
                    go_ret2
                    exact ⟨ret_ii2 (by rw [HR.out, HE.out]), Br2⟩
            ·
              have HE := Lib.hid (cntG_end hG.out hk)
              go_wp2
              go_ret2
              exact ⟨ret_ii2 (by rw [HR.out, HE.out]), Br⟩

set_option maxRecDepth 100000 in
set_option maxHeartbeats 3200000 in
theorem spec_SameTerms (h p g : Value) (s : Src) (h' p' g' : Value) (t : Src) (m : Int) (w : World) (hs : SlS w h p g s) (ht : SlS w h' p' g' t) :
    Calls Try.prog 19 #[.agg #[h, p, g], .agg #[h', p', g'], .int .i64 m] w fun e w' => e = .returned (.tuple #[.int .i64 (sameF s t m).1, .int .i64 (sameF s t m).2]) ∧ Bl w w' := by
  by_cases hc : code17 s t m = 0
  ·
    have HR := Lib.hid (show sameF s t m = (((cntG (eqT (plainS s) (plainS t)) m.toNat 0 : Nat) : Int), (0 : Int)) by rw [sameF, if_pos hc])
    obtain ⟨k1, k2, hm⟩ := code17_zero hc
    obtain ⟨M, rfl⟩ := Int.eq_ofNat_of_zero_le (show 0 ≤ m by omega)
    rw [Int.toNat_natCast] at HR
    have hb : (code17 s t M != 0) = false := by simp [hc]
    have K1 := okSrc_H k1
    have K2 := okSrc_H k2
    clear k1 k2
    clear hc
    generalize hcc : code17 s t M = cc at *
    have HC := Lib.hid hcc
    clear hcc
    go_enter Try.func19, Try.ntmps19
    go_wp2_with fail
    refine (code17_any h p g s h' p' g' t M _ (w.heap.size) (w.heap.size + 1) (hs.below (bl_alloc (bl_alloc (bl_refl _) _) _)) (ht.below (bl_alloc (bl_alloc (bl_refl _) _) _)) ((Bx.new (b := w.heap.size) _ #[h, p, g] 26 (by first | rfl | simp)).alloc _) (Bx.new (b := w.heap.size + 1) _ #[h', p', g'] 26 (by first | rfl | simp))).mono ?_
    rintro e w1 ⟨rfl, hb1⟩
    have B1 : Bl w w1 := bl_call (bl_alloc (bl_alloc (bl_refl _) _) _) hb1
    have xF_1 : Bx w1 (w.heap.size) #[h, p, g] := ((Bx.new (b := w.heap.size) _ #[h, p, g] 26 (by first | rfl | simp)).alloc _).below hb1
    have xG_1 : Bx w1 (w.heap.size + 1) #[h', p', g'] := (Bx.new (b := w.heap.size + 1) _ #[h', p', g'] 26 (by first | rfl | simp)).below hb1
    obtain ⟨cF_1, fF_1, zF_1⟩ := xF_1.out
    obtain ⟨cG_1, fG_1, zG_1⟩ := xG_1.out
    rw [HC.out]
    obtain ⟨C, hC⟩ : ∃ C, C = cntG (eqT (plainS s) (plainS t)) M 0 := ⟨_, rfl⟩
    rw [← hC] at HR
    have HCC := Lib.hid hC
    clear hC
    go_wp2_with fail
    refine (plainSrc_any h p g s _ (w.heap.size) (hs.below B1) xF_1 K1.okPer K1.hb).mono ?_
    rintro e w2 ⟨u1, v1, z1, u2, v2, z2, u3, v3, z3, rfl, HA, hb2⟩
    have B2 : Bl w w2 := bl_call B1 hb2
    have xF_2 : Bx w2 (w.heap.size) #[h, p, g] := xF_1.below hb2
    have xG_2 : Bx w2 (w.heap.size + 1) #[h', p', g'] := xG_1.below hb2
    clear cF_1 fF_1 zF_1 cG_1 fG_1 zG_1
    obtain ⟨cF_2, fF_2, zF_2⟩ := xF_2.out
    obtain ⟨cG_2, fG_2, zG_2⟩ := xG_2.out
    have HA := Lib.hid HA
    go_wp2_with fail
    refine (plainSrc_any h' p' g' t _ (w.heap.size + 1) (ht.below (bl_alloc B2 _)) (xG_2.alloc _) K2.okPer K2.hb).mono ?_
    rintro e w3 ⟨p1, q1, r1, p2, q2, r2, p3, q3, r3, rfl, HB, hb3⟩
    have B3 : Bl w w3 := bl_call (bl_alloc B2 _) hb3
    have xF_3 : Bx w3 (w.heap.size) #[h, p, g] := (xF_2.alloc _).below hb3
    have xG_3 : Bx w3 (w.heap.size + 1) #[h', p', g'] := (xG_2.alloc _).below hb3
    have xA_3 : Bx w3 (w2.heap.size) #[.slice u1 v1 z1, .slice u2 v2 z2, .slice u3 v3 z3] := (Bx.new (b := w2.heap.size) _ #[.slice u1 v1 z1, .slice u2 v2 z2, .slice u3 v3 z3] 26 (by first | rfl | simp)).below hb3
    clear cF_2 fF_2 zF_2 cG_2 fG_2 zG_2
    obtain ⟨cF_3, fF_3, zF_3⟩ := xF_3.out
    obtain ⟨cG_3, fG_3, zG_3⟩ := xG_3.out
    obtain ⟨cA_3, fA_3, zA_3⟩ := xA_3.out
    have HA := Lib.hid ((HA.out.alloc _).below hb3)
    have HB := Lib.hid (HB.alloc (.cells #[.slice p1 q1 r1, .slice p2 q2 r2, .slice p3 q3 r3] 26))
    have HA := Lib.hid (HA.out.alloc (.cells #[.slice p1 q1 r1, .slice p2 q2 r2, .slice p3 q3 r3] 26))
    go_wp2_with fail
    have B4 : Bl w (w3.alloc (.cells #[.slice p1 q1 r1, .slice p2 q2 r2, .slice p3 q3 r3] 26)) := (bl_alloc B3 _)
    have xF_4 : Bx (w3.alloc (.cells #[.slice p1 q1 r1, .slice p2 q2 r2, .slice p3 q3 r3] 26)) (w.heap.size) #[h, p, g] := (xF_3.alloc _)
    have xG_4 : Bx (w3.alloc (.cells #[.slice p1 q1 r1, .slice p2 q2 r2, .slice p3 q3 r3] 26)) (w.heap.size + 1) #[h', p', g'] := (xG_3.alloc _)
    have xA_4 : Bx (w3.alloc (.cells #[.slice p1 q1 r1, .slice p2 q2 r2, .slice p3 q3 r3] 26)) (w2.heap.size) #[.slice u1 v1 z1, .slice u2 v2 z2, .slice u3 v3 z3] := (xA_3.alloc _)
    have xB_4 : Bx (w3.alloc (.cells #[.slice p1 q1 r1, .slice p2 q2 r2, .slice p3 q3 r3] 26)) (w3.heap.size) #[.slice p1 q1 r1, .slice p2 q2 r2, .slice p3 q3 r3] := (Bx.new (b := w3.heap.size) _ #[.slice p1 q1 r1, .slice p2 q2 r2, .slice p3 q3 r3] 26 (by first | rfl | simp))
    have zz4 : w3.heap.size + 1 ≤ (w3.alloc (.cells #[.slice p1 q1 r1, .slice p2 q2 r2, .slice p3 q3 r3] 26)).heap.size := (by simp)
    clear cF_3 fF_3 zF_3 cG_3 fG_3 zG_3 cA_3 fA_3 zA_3
    generalize (w3.alloc (.cells #[.slice p1 q1 r1, .slice p2 q2 r2, .slice p3 q3 r3] 26)) = w4 at *
    obtain ⟨cF_4, fF_4, zF_4⟩ := xF_4.out
    obtain ⟨cG_4, fG_4, zG_4⟩ := xG_4.out
    obtain ⟨cA_4, fA_4, zA_4⟩ := xA_4.out
    obtain ⟨cB_4, fB_4, zB_4⟩ := xB_4.out
    go_loopw [11] (fun s11 wr => ∃ k : Nat, s11 = .int .i64 k ∧ k ≤ M ∧ Hid (C = cntG (eqT (plainS s) (plainS t)) (M - k) k) ∧ Bx wr (w2.heap.size) #[.slice u1 v1 z1, .slice u2 v2 z2, .slice u3 v3 z3] ∧ Bx wr (w3.heap.size) #[.slice p1 q1 r1, .slice p2 q2 r2, .slice p3 q3 r3] ∧ SlS wr (.slice u1 v1 z1) (.slice u2 v2 z2) (.slice u3 v3 z3) (plainS s) ∧ SlS wr (.slice p1 q1 r1) (.slice p2 q2 r2) (.slice p3 q3 r3) (plainS t) ∧ Bl w wr) (fun s11 _ => M - (intOf s11).toNat)
    case atStart => exact ⟨0, rfl, Nat.zero_le _, HCC, xA_4, xB_4, HA.out, HB.out, B4⟩
    case round =>
      rcases hrel with ⟨k, rfl, hkm, hG, yA, yB, sX, sY, Br⟩
      have SX := Lib.hid sX
      have SY := Lib.hid sY
      clear sX sY cF_4 fF_4 zF_4 cG_4 fG_4 zG_4 cA_4 fA_4 zA_4 cB_4 fB_4 zB_4
      obtain ⟨cA, fA, zA⟩ := yA.out
      obtain ⟨cB, fB, zB⟩ := yB.out
      by_cases hk : k < M
      ·
        obtain ⟨⟨x, o⟩, hx⟩ : ∃ z, termP (plainS s) k = z := ⟨_, rfl⟩
        obtain ⟨⟨y, u⟩, hy⟩ : ∃ z, termP (plainS t) k = z := ⟨_, rfl⟩
        have TX := Lib.hid hx
        have TY := Lib.hid hy
        have HD := Lib.hid (show eqT (plainS s) (plainS t) k = (o && u && decide (x = y)) by rw [eqT, hx, hy])
        clear hx hy
        go_wp2_with fail
        refine (sterm_eqS TX.out _ _ SX.out yA K1.okPer.plain (by omega)).mono ?_
        rintro e wr1 ⟨rfl, hbr1⟩
        have Br1 : Bl w wr1 := bl_call Br hbr1
        have xA_r1 : Bx wr1 (w2.heap.size) #[.slice u1 v1 z1, .slice u2 v2 z2, .slice u3 v3 z3] := yA.below hbr1
        have xB_r1 : Bx wr1 (w3.heap.size) #[.slice p1 q1 r1, .slice p2 q2 r2, .slice p3 q3 r3] := yB.below hbr1
        clear cA fA zA cB fB zB
        obtain ⟨cA_r1, fA_r1, zA_r1⟩ := xA_r1.out
        obtain ⟨cB_r1, fB_r1, zB_r1⟩ := xB_r1.out
        go_wp2_with fail
        refine (sterm_eqS TY.out _ _ (SY.out.below hbr1) xB_r1 K2.okPer.plain (by omega)).mono ?_
        rintro e wr2 ⟨rfl, hbr2⟩
        have Br2 : Bl w wr2 := bl_call Br1 hbr2
        have xA_r2 : Bx wr2 (w2.heap.size) #[.slice u1 v1 z1, .slice u2 v2 z2, .slice u3 v3 z3] := xA_r1.below hbr2
        have xB_r2 : Bx wr2 (w3.heap.size) #[.slice p1 q1 r1, .slice p2 q2 r2, .slice p3 q3 r3] := xB_r1.below hbr2
        clear cA_r1 fA_r1 zA_r1 cB_r1 fB_r1 zB_r1
        obtain ⟨cA_r2, fA_r2, zA_r2⟩ := xA_r2.out
        obtain ⟨cB_r2, fB_r2, zB_r2⟩ := xB_r2.out
        cases o with
        | false =>
          have HE := Lib.hid (cntG_no hG.out hk (by rw [HD.out]; simp))
          go_wp2
          go_ret2
          exact ⟨ret_ii2 (by rw [HR.out, HE.out]), Br2⟩
        | true =>
          cases u with
          | false =>
            have HE := Lib.hid (cntG_no hG.out hk (by rw [HD.out]; simp))
            go_wp2
            go_ret2
            exact ⟨ret_ii2 (by rw [HR.out, HE.out]), Br2⟩
          | true =>
            by_cases hxy : x = y
            · subst hxy
              have HE := Lib.hid (cntG_yes hG.out hk (by rw [HD.out]; simp))
              go_wp2
              go_roundw
              case rel => exact ⟨k + 1, by go_num, by omega, HE, xA_r2, xB_r2, (SX.out.below hbr1).below hbr2, (SY.out.below hbr1).below hbr2, Br2⟩
              case measure => clear HE; simp only [intOf, Int.toNat_natCast]; omega
            ·
              have hb : (x != y) = true := by simp [hxy]
              have HE := Lib.hid (cntG_no hG.out hk (by rw [HD.out]; simp [hxy]))
              clear hxy
              go_wp2
              go_ret2
              exact ⟨ret_ii2 (by rw [HR.out, HE.out]), Br2⟩
      ·
        have HE := Lib.hid (cntG_end hG.out hk)
        obtain rfl : k = M := by omega
        go_wp2
        go_ret2
        exact ⟨ret_ii2 (by rw [HR.out, HE.out]), Br⟩
  ·
    have HR := Lib.hid (show sameF s t m = (0, code17 s t m) by rw [sameF, if_neg hc])
    have hb : (code17 s t m != 0) = true := by simp [hc]
    clear hc
    generalize hcc : code17 s t m = cc at *
    have HC := Lib.hid hcc
    clear hcc
    go_enter Try.func19, Try.ntmps19
    go_wp2_with fail
    refine (code17_any h p g s h' p' g' t m _ (w.heap.size) (w.heap.size + 1) (hs.below (bl_alloc (bl_alloc (bl_refl _) _) _)) (ht.below (bl_alloc (bl_alloc (bl_refl _) _) _)) ((Bx.new (b := w.heap.size) _ #[h, p, g] 26 (by first | rfl | simp)).alloc _) (Bx.new (b := w.heap.size + 1) _ #[h', p', g'] 26 (by first | rfl | simp))).mono ?_
    rintro e w1 ⟨rfl, hb1⟩
    have B1 : Bl w w1 := bl_call (bl_alloc (bl_alloc (bl_refl _) _) _) hb1
    have xF_1 : Bx w1 (w.heap.size) #[h, p, g] := ((Bx.new (b := w.heap.size) _ #[h, p, g] 26 (by first | rfl | simp)).alloc _).below hb1
    have xG_1 : Bx w1 (w.heap.size + 1) #[h', p', g'] := (Bx.new (b := w.heap.size + 1) _ #[h', p', g'] 26 (by first | rfl | simp)).below hb1
    obtain ⟨cF_1, fF_1, zF_1⟩ := xF_1.out
    obtain ⟨cG_1, fG_1, zG_1⟩ := xG_1.out
    rw [HC.out]
    go_wp2
    go_ret2
    exact ⟨ret_ii2 HR.out, B1⟩

end Go.Proofs.Ytgkelemfbmmgnaa

