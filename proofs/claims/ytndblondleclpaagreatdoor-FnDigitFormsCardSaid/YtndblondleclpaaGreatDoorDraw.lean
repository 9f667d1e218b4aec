/- The laws' source of choices: what it hands out, and what it leaves as it was. Each theorem names its conditions. -/
import Derived.Test.YtndblondleclpaaGreatDoorNum
import Derived.Test.YtndblondleclpaaGreatDoorOnly
import Derived.Test.YtndblondleclpaaGreatDoorUpd
import Derived.Test.YtndblondleclpaaGreatDoorFrac
namespace Go.Proofs.YtndblondleclpaaGreatDoor
open Go.RowKit
set_option linter.unusedVariables false
set_option linter.unusedSimpArgs false

/-- The slice value v reads, in the world w, as the bytes bs. -/
def SlB (w : World) (v : Value) (bs : List Int) : Prop :=
  ∃ a cap, v = .slice a bs.length cap ∧ bs.length ≤ cap ∧ cap ≤ maxLen ∧ (∀ x ∈ bs, 0 ≤ x ∧ x ≤ 255) ∧ (a = none → cap = 0) ∧
    (bs = [] ∨ ∃ b off, a = some ⟨b, off, none⟩ ∧ ∀ i x, bs[i]? = some x → w.cell? ⟨b, off + i, none⟩ = some (.int .u8 x))
theorem SlB.form {w : World} {v : Value} {bs : List Int} (h : SlB w v bs) : ∃ a c, v = .slice a bs.length c ∧ bs.length ≤ c := by
  obtain ⟨a, cap, rfl, h1, _⟩ := h
  exact ⟨a, cap, rfl, h1⟩
theorem SlB.len {w : World} {v : Value} {bs : List Int} (h : SlB w v bs) : bs.length ≤ 9223372036854775807 := by
  obtain ⟨a, cap, rfl, h1, h2, _⟩ := h; unfold maxLen at h2; omega
theorem SlB.at {w w' : World} {a : Option Addr} {n c k : Nat} {bs : List Int} (h : SlB w (.slice a n c) bs) (hb : Bl w w') (hk : k < bs.length) :
    ∃ b o x, a = some ⟨b, o, none⟩ ∧ b < w.heap.size ∧ w'.cell? ⟨b, o + k, none⟩ = some (.int .u8 x) ∧ 0 ≤ x ∧ x ≤ 255 ∧ bs[k]? = some x := by
  obtain ⟨a', cap, e, h1, h2, h3, h4, h5⟩ := h
  simp only [Value.slice.injEq] at e
  obtain ⟨rfl, rfl, rfl⟩ := e
  rcases h5 with h5 | ⟨b, off, rfl, hc⟩
  · rw [h5] at hk; simp at hk
  · have hx : bs[k]? = some bs[k] := List.getElem?_eq_getElem hk
    have hr := h3 _ (List.getElem_mem hk)
    exact ⟨b, off, _, rfl, cell_lt (hc k _ hx), (hb.cell (p := ⟨b, off + k, none⟩) (cell_lt (hc k _ hx))).trans (hc k _ hx), hr.1, hr.2, hx⟩

theorem SlB.below {w w' : World} {v : Value} {bs : List Int} (h : SlB w v bs) (hb : Bl w w') : SlB w' v bs := by
  obtain ⟨a, cap, rfl, h1, h2, h3, h4, h5⟩ := h
  refine ⟨a, cap, rfl, h1, h2, h3, h4, ?_⟩
  rcases h5 with h5 | ⟨b, off, rfl, hc⟩
  · exact .inl h5
  · exact .inr ⟨b, off, rfl, fun i x hx => (hb.cell (p := ⟨b, off + i, none⟩) (cell_lt (hc i x hx))).trans (hc i x hx)⟩

/-- Block p is a source of choices over bytes that lay there in w0; at most N have been read. -/
def SrcD (w0 w : World) (p N : Nat) : Prop :=
  ∃ (a : Option Addr) (bs : List Int) (c k : Nat) (s : Int), SlB w0 (.slice a bs.length c) bs ∧ bs.length ≤ 4096 ∧ w0.heap.size ≤ p ∧ Bl w0 w ∧ k ≤ N ∧ Bx w p #[.slice a bs.length c, .int .i64 k, .int .u64 s]
theorem and255 (y : Int) : 0 ≤ wrap64 (bits BinOp.and IntKind.u64 y 255) ∧ wrap64 (bits BinOp.and IntKind.u64 y 255) ≤ 255 := by
  have hn : (BitVec.ofInt 64 y &&& BitVec.ofInt 64 255).toNat ≤ 255 := by
    rw [BitVec.toNat_and]
    exact Nat.le_trans Nat.and_le_right (by decide)
  have e : bits BinOp.and IntKind.u64 y 255 = (((BitVec.ofInt 64 y &&& BitVec.ofInt 64 255).toNat : Nat) : Int) := by
    exact IntWalk.u64_in (((BitVec.ofInt 64 y &&& BitVec.ofInt 64 255).toNat : Nat) : Int) (by constructor <;> omega)
  rw [e]
  generalize (BitVec.ofInt 64 y &&& BitVec.ofInt 64 255).toNat = m at hn
  have : wrap64 (m : Int) = m := IntWalk.wrap64_in _ (by constructor <;> omega)
  rw [this]
  omega
def NextP (w0 w : World) (p N : Nat) (e : Ending) (w' : World) : Prop := ∃ r : Int, e = .returned (.int .i64 r) ∧ 0 ≤ r ∧ r ≤ 255 ∧ SrcD w0 w' p (N + 1) ∧ Upd w w' p

set_option maxRecDepth 100000 in
set_option maxHeartbeats 1600000 in
theorem dnext_any {w0 w : World} {p N : Nat} (h : SrcD w0 w p N) (hN : N ≤ 1000000000) :
    Calls Tryz.prog 121 #[.pointer (some ⟨p, 0, none⟩)] w (NextP w0 w p N) := by
  obtain ⟨a, bs, c, k, s, hS, hl, hp, hB, hk, xS⟩ := h
  obtain ⟨cS, fS, zS⟩ := xS.out
  by_cases hlt : k < bs.length
  · obtain ⟨b, o, x, rfl, hbl, cx, hx0, hx1, _⟩ := hS.at hB hlt
    have hbp : b ≠ p := by omega
    have hle : k + 1 ≤ bs.length := by omega
    go_enter Tryz.func121, Tryz.ntmps121
    go_wp2
    go_quiet (fail)
    go_wp2
    go_quiet (fail)
    go_wp2
    go_quiet (fail)
    go_wp2
    go_ret
    exact ⟨x, rfl, hx0, hx1, ⟨_, bs, c, k + 1, _, hS, hl, hp, bl_dN (bl_set (bl_set (bl_dN hB _) hp _) hp _) _, by omega, bx_dN (((bx_dN xS _).set 1 _).set 2 _) _⟩, upd_drewN (upd_set (upd_set (upd_drewN (upd_refl _ _) _) _ _) _ _) _⟩
  · have hle : ¬ k + 1 ≤ bs.length := by omega
    go_enter Tryz.func121, Tryz.ntmps121
    go_wp2
    go_quiet (fail)
    go_wp2
    go_quiet (fail)
    go_wp2
    go_ret
    exact ⟨_, rfl, (and255 _).1, (and255 _).2, ⟨_, bs, c, k + 1, _, hS, hl, hp, bl_dN (bl_set (bl_set (bl_dN hB _) hp _) hp _) _, by omega, bx_dN (((bx_dN xS _).set 1 _).set 2 _) _⟩, upd_drewN (upd_set (upd_set (upd_drewN (upd_refl _ _) _) _ _) _ _) _⟩

/-- A choice of n: from 0 to n - 1, or 0. -/
def PickP (w0 w : World) (p N : Nat) (n : Int) (e : Ending) (w' : World) : Prop := ∃ r : Int, e = .returned (.int .i64 r) ∧ 0 ≤ r ∧ (r = 0 ∨ r < n) ∧ SrcD w0 w' p (N + 2) ∧ Upd w w' p
theorem SrcD.more {w0 w : World} {p N M : Nat} (h : SrcD w0 w p N) (hM : N ≤ M) : SrcD w0 w p M := by
  obtain ⟨a, bs, c, k, s, hS, hl, hp, hB, hk, xS⟩ := h
  exact ⟨a, bs, c, k, s, hS, hl, hp, hB, by omega, xS⟩
theorem SrcD.out {w0 w : World} {p N : Nat} (h : SrcD w0 w p N) : w0.heap.size ≤ p ∧ p < w.heap.size ∧ Bl w0 w := by
  obtain ⟨a, bs, c, k, s, hS, hl, hp, hB, hk, xS⟩ := h
  exact ⟨hp, xS.out.2.2, hB⟩
theorem SrcD.below {w0 w w' : World} {p N : Nat} (h : SrcD w0 w p N) (hb : Bl w w') : SrcD w0 w' p N := by
  obtain ⟨a, bs, c, k, s, hS, hl, hp, hB, hk, xS⟩ := h
  exact ⟨a, bs, c, k, s, hS, hl, hp, bl_call hB hb, hk, xS.below hb⟩
theorem SrcD.far {w0 w : World} {p N : Nat} (h : SrcD w0 w p N) {q : Addr} (h1 : w0.heap.size ≤ q.block) (h2 : q.block ≠ p) (v : Value) : SrcD w0 (w.setCell q v) p N := by
  obtain ⟨a, bs, c, k, s, hS, hl, hp, hB, hk, xS⟩ := h
  exact ⟨a, bs, c, k, s, hS, hl, hp, bl_set hB h1 _, hk, xS.far h2 _⟩

set_option maxHeartbeats 1600000 in
theorem dpick_any {w0 w : World} {p N : Nat} {n : Int} (h : SrcD w0 w p N) (hN : N ≤ 900000000) (hn : -9223372036854775808 ≤ n ∧ n ≤ 9223372036854775807) :
    Calls Tryz.prog 71 #[.pointer (some ⟨p, 0, none⟩), .int .i64 n] w (PickP w0 w p N n) := by
  by_cases h1 : n ≤ 1
  · go_enter Tryz.func71, Tryz.ntmps71
    go_wp2
    go_ret
    exact ⟨0, rfl, by omega, .inl rfl, h.more (by omega), upd_refl _ _⟩
  · have hz : (n == 0) = false := by rw [beq_eq_false_iff_ne]; omega
    by_cases h2 : n ≤ 200
    · go_enter Tryz.func71, Tryz.ntmps71
      go_wp2_with fail
      refine (dnext_any h (by omega)).mono ?_
      rintro e w1 ⟨r, rfl, r0, r1, hS1, hU1⟩
      have m1 := Int.emod_nonneg r (show n ≠ 0 by omega)
      have m2 := Int.emod_lt_of_pos r (show 0 < n by omega)
      go_wp2
      go_ret
      exact ⟨_, rfl, m1, .inr m2, hS1.more (by omega), hU1⟩
    · go_enter Tryz.func71, Tryz.ntmps71
      go_wp2_with fail
      refine (dnext_any h (by omega)).mono ?_
      rintro e w1 ⟨r, rfl, r0, r1, hS1, hU1⟩
      go_wp2_with fail
      refine (dnext_any hS1 (by omega)).mono ?_
      rintro e w2 ⟨q, rfl, q0, q1, hS2, hU2⟩
      have m1 := Int.emod_nonneg (r * 256 + q) (show n ≠ 0 by omega)
      have m2 := Int.emod_lt_of_pos (r * 256 + q) (show 0 < n by omega)
      go_wp2
      go_ret
      exact ⟨_, rfl, m1, .inr m2, hS2.more (by omega), upd_trans hU1 hU2⟩

def OneP (w0 w : World) (p N : Nat) (e : Ending) (w' : World) : Prop := ∃ b : Bool, e = .returned (.bool b) ∧ SrcD w0 w' p (N + 2) ∧ Upd w w' p
set_option maxHeartbeats 1600000 in
theorem done_any {w0 w : World} {p N : Nat} {n : Int} (h : SrcD w0 w p N) (hN : N ≤ 900000000) (hn : -9223372036854775808 ≤ n ∧ n ≤ 9223372036854775807) :
    Calls Tryz.prog 66 #[.pointer (some ⟨p, 0, none⟩), .int .i64 n] w (OneP w0 w p N) := by
  go_enter Tryz.func66, Tryz.ntmps66
  go_wp2_with fail
  refine (dpick_any h hN hn).mono ?_
  rintro e w1 ⟨r, rfl, r0, r1, hS1, hU1⟩
  go_wp2
  go_ret
  exact ⟨_, rfl, hS1, hU1⟩

def FromP (w : World) (e : Ending) (w' : World) : Prop := ∃ p : Nat, e = .returned (.pointer (some ⟨p, 0, none⟩)) ∧ SrcD w w' p 0 ∧ Bl w w'
theorem dfrom_any {w : World} {v : Value} {bs : List Int} (h : SlB w v bs) (hl : bs.length ≤ 4096) :
    Calls Tryz.prog 45 #[v] w (FromP w) := by
  obtain ⟨a, c, rfl, _⟩ := h.form
  go_enter Tryz.func45, Tryz.ntmps45
  go_wp2
  go_ret
  exact ⟨_, rfl, ⟨a, bs, c, 0, 0, h, hl, Nat.le_refl _, bl_alloc (bl_refl _) _, Nat.le_refl _, Bx.new _ _ _ rfl⟩, bl_alloc (bl_refl _) _⟩

theorem lowF_gcd (x q : Int) (hq : q ≠ 0) : gcdI (lowF x q).1 (lowF x q).2 = 1 := by
  have h0 : 0 < x.gcd q := Int.gcd_pos_of_ne_zero_right _ hq
  have e := Int.gcd_ediv_gcd_ediv_gcd h0
  show ((Int.gcd (x / (x.gcd q : Int)) (q / (x.gcd q : Int)) : Nat) : Int) = 1
  rw [e]; rfl
theorem lowF_small {x q m : Int} (hq : 1 ≤ q) (hqm : q ≤ m) (hx : -m ≤ x ∧ x ≤ m) : 1 ≤ (lowF x q).2 ∧ (lowF x q).2 ≤ m ∧ -m ≤ (lowF x q).1 ∧ (lowF x q).1 ≤ m := by
  have h0 := gcdI_pos x q (by omega)
  have h1 := ediv_bd x (gcdI x q) m h0 hx (by omega)
  have h2 := ediv_bd q (gcdI x q) m h0 ⟨by omega, hqm⟩ (by omega)
  have h3 : gcdI x q ≤ q := gcdI_le x q (by omega)
  have h4 : 1 ≤ q / gcdI x q := by
    rw [Int.le_ediv_iff_mul_le h0]; omega
  exact ⟨h4, h2.2, h1.1, h1.2⟩
/-- A fraction in lowest terms, small. -/
def FrP (w0 w : World) (p N : Nat) (m : Int) (e : Ending) (w' : World) : Prop :=
  ∃ n d : Int, e = .returned (.agg #[.int .i64 n, .int .i64 d]) ∧ gcdI n d = 1 ∧ (1 ≤ d ∧ d ≤ m) ∧ (-m ≤ n ∧ n ≤ m) ∧ SrcD w0 w' p (N + 8) ∧ Upd w w' p
set_option maxRecDepth 100000 in
set_option maxHeartbeats 1600000 in
theorem draw2_any {w0 w : World} {p N : Nat} {m : Int} (h : SrcD w0 w p N) (hN : N ≤ 800000000) (hm : 2 ≤ m ∧ m ≤ 1000000) :
    Calls Tryz.prog 118 #[.pointer (some ⟨p, 0, none⟩), .int .i64 m] w (FrP w0 w p N m) := by
  have hp := h.out
  go_enter Tryz.func118, Tryz.ntmps118
  go_wp2_with fail
  have xR : Bx (w.alloc (.cells #[.int .i64 0, .int .i64 0] 45)) w.heap.size #[.int .i64 0, .int .i64 0] := Bx.new (b := w.heap.size) _ _ _ rfl
  have hA := h.below (bl_alloc (bl_refl w) (.cells #[.int .i64 0, .int .i64 0] 45))
  have uA : Upd w (w.alloc (.cells #[.int .i64 0, .int .i64 0] 45)) p := upd_bl (upd_refl _ _) (bl_alloc (bl_refl w) _)
  generalize w.alloc (.cells #[.int .i64 0, .int .i64 0] 45) = wa at *
  refine (dpick_any hA (by omega) (by omega)).mono ?_
  rintro e w1 ⟨r, rfl, r0, r1, hS1, hU1⟩
  have x1 := xR.upd hU1 (by omega)
  go_wp2_with fail
  refine (done_any hS1 (by omega) (by omega)).mono ?_
  rintro e w2 ⟨b, rfl, hS2, hU2⟩
  have x2 := x1.upd hU2 (by omega)
  have u2 := upd_trans (upd_trans uA hU1) hU2
  cases b with
  | true =>
    go_wp2_with fail
    refine (dpick_any hS2 (by omega) (by omega)).mono ?_
    rintro e w3 ⟨q, rfl, q0, q1, hS3, hU3⟩
    have x3 := x2.upd hU3 (by omega)
    go_wp2_with fail
    refine (dpick_any hS3 (by omega) (by omega)).mono ?_
    rintro e w4 ⟨s, rfl, s0, s1, hS4, hU4⟩
    have x4 := x3.upd hU4 (by omega)
    go_wp2_with fail
    refine (lowF_any _ _ _ (by omega) (by omega) (by omega) (by omega)).mono ?_
    rintro e w5 ⟨rfl, hb5⟩
    have x5 := x4.below hb5
    have hS5 := hS4.below hb5
    have u5 := upd_bl (upd_trans (upd_trans u2 hU3) hU4) hb5
    have hz := x5.out.2.2
    obtain ⟨c5, f5, z5⟩ := x5.out
    have hg := lowF_gcd q (1 + s) (by omega)
    have hs := lowF_small (x := q) (q := 1 + s) (m := m) (by omega) (by omega) (by omega)
    go_wp2
    refine bodyPost_ret (v := .agg #[.int .i64 (lowF q (1 + s)).1, .int .i64 (lowF q (1 + s)).2]) (by simp only [results, Tryz.results118]; go_simp) rfl ?_
    exact ⟨_, _, rfl, hg, ⟨hs.1, hs.2.1⟩, hs.2.2, ((hS5.far (by have := hp.2.2.size; simpa using this) (by simp; omega) _).far (by have := hp.2.2.size; simpa using this) (by simp; omega) _).more (by omega), upd_far (upd_far u5 (by simp) _) (by simp) _⟩
  | false =>
    obtain ⟨q, hq⟩ : ∃ q, q = r - m := ⟨_, rfl⟩
    have HQ := Lib.hid hq
    have hqb : -m ≤ q ∧ q ≤ m := by omega
    clear hq
    go_wp2_with fail
    refine (dpick_any hS2 (by omega) (by omega)).mono ?_
    rintro e w4 ⟨s, rfl, s0, s1, hS4, hU4⟩
    have x4 := x2.upd hU4 (by omega)
    go_wp2_with fail
    rw [← HQ.out]
    refine (lowF_any _ _ _ (by omega) (by omega) (by omega) (by omega)).mono ?_
    rintro e w5 ⟨rfl, hb5⟩
    have x5 := x4.below hb5
    have hS5 := hS4.below hb5
    have u5 := upd_bl (upd_trans u2 hU4) hb5
    have hz := x5.out.2.2
    obtain ⟨c5, f5, z5⟩ := x5.out
    have hg := lowF_gcd q (1 + s) (by omega)
    have hs := lowF_small (x := q) (q := 1 + s) (m := m) (by omega) (by omega) (by omega)
    go_wp2
    refine bodyPost_ret (v := .agg #[.int .i64 (lowF q (1 + s)).1, .int .i64 (lowF q (1 + s)).2]) (by simp only [results, Tryz.results118]; go_simp) rfl ?_
    exact ⟨_, _, rfl, hg, ⟨hs.1, hs.2.1⟩, hs.2.2, ((hS5.far (by have := hp.2.2.size; simpa using this) (by simp; omega) _).far (by have := hp.2.2.size; simpa using this) (by simp; omega) _).more (by omega), upd_far (upd_far u5 (by simp) _) (by simp) _⟩

def FrS (w0 w : World) (p N : Nat) (m : Int) (e : Ending) (w' : World) : Prop :=
  ∃ n d : Int, e = .returned (.agg #[.int .i64 n, .int .i64 d]) ∧ gcdI n d = 1 ∧ (1 ≤ d ∧ d ≤ m) ∧ (-m ≤ n ∧ n ≤ m) ∧ SrcD w0 w' p (N + 10) ∧ Upd w w' p
def SmallQ (w : World) (e : Ending) (w' : World) : Prop :=
  ∃ n d : Int, e = .returned (.agg #[.int .i64 n, .int .i64 d]) ∧ gcdI n d = 1 ∧ (1 ≤ d ∧ d ≤ 2000) ∧ (-2000 ≤ n ∧ n ≤ 2000) ∧ Bl w w'
end Go.Proofs.YtndblondleclpaaGreatDoor
