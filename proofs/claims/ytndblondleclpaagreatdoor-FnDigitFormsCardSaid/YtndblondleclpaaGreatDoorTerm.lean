/- The term of a source at a place: the program and the reference. Each theorem names its conditions. -/
import Derived.Test.YtndblondleclpaaGreatDoorSrcA
namespace Go.Proofs.YtndblondleclpaaGreatDoor
open Go.RowKit
set_option linter.unusedVariables false
set_option linter.unusedSimpArgs false

/-- What the terms of a source need: bounds on its lengths, its period and its growth. -/
structure OkPer (s : Src) : Prop where
  h30 : s.H.length ≤ 1000
  p30 : s.P.length ≤ 30
  gp : s.G.length = s.P.length
  per : ∀ (i : Nat) (x : Int), s.P[i]? = some x → 1 ≤ x ∧ x ≤ 1000000
  gr : ∀ (i : Nat) (x : Int), s.G[i]? = some x → 0 ≤ x ∧ x ≤ 1000000
theorem OkSrc.okPer {s : Src} (x : OkSrc s) : OkPer s := ⟨by have := x.h30; omega, x.p30, x.gp, x.per, x.gr⟩
theorem ret_ib {x : Int} {b : Bool} {r : Int × Bool} (h : (x, b) = r) : Ending.returned (.tuple #[.int .i64 x, .bool b]) = .returned (.tuple #[.int .i64 r.1, .bool r.2]) := by subst h; rfl
theorem ret_ii {x b : Int} {r : Int × Int} (h : (x, b) = r) : Ending.returned (.tuple #[.int .i64 x, .int .i64 b]) = .returned (.tuple #[.int .i64 r.1, .int .i64 r.2]) := by subst h; rfl
/-- The term at a place of a valid source; false if there is none. -/
def termP (s : Src) (k : Nat) : Int × Bool :=
  if k < s.H.length then (s.H.getD k 0, true)
  else if s.P.length = 0 then (0, false)
  else (s.P.getD ((k - s.H.length) % s.P.length) 0 + ((k - s.H.length) / s.P.length : Nat) * s.G.getD ((k - s.H.length) % s.P.length) 0, true)

theorem termP_split (s : Src) (K : Nat) (c1 : ¬ K < s.H.length) (c2 : ¬ s.P.length = 0) : ∃ Q M : Nat, Q ≤ K ∧ M < s.P.length ∧ ((K : Int) - (s.H.length : Int)) / (s.P.length : Int) = (Q : Int) ∧ ((K : Int) - (s.H.length : Int)) % (s.P.length : Int) = (M : Int) ∧
    ∀ x y, s.P[M]? = some x → s.G[M]? = some y → (x + (Q : Int) * y, true) = termP s K := by
  have e : (K : Int) - (s.H.length : Int) = ((K - s.H.length : Nat) : Int) := by omega
  refine ⟨(K - s.H.length) / s.P.length, (K - s.H.length) % s.P.length, Nat.le_trans (Nat.div_le_self _ _) (by omega), Nat.mod_lt _ (by omega), by rw [e]; rfl, by rw [e]; rfl, fun x y hx hy => ?_⟩
  rw [termP, if_neg c1, if_neg c2]
  simp [hx, hy]

theorem prod_bd (a b A B : Int) (ha : 0 ≤ a) (ha' : a ≤ A) (hb : 0 ≤ b) (hb' : b ≤ B) : 0 ≤ a * b ∧ a * b ≤ A * B :=
  ⟨Int.mul_nonneg ha hb, Int.mul_le_mul ha' hb' hb (by omega)⟩

set_option maxRecDepth 100000 in
set_option maxHeartbeats 1600000 in
theorem iterm_any (h p g : Value) (s : Src) (k : Int) (w : World) (ha : SlS w h p g s) (ok : OkPer s) (h0 : 0 ≤ k) (h1 : k ≤ 1000000) :
    Calls Tryz.prog 47 #[.agg #[h, p, g], .int .i64 k] w fun e w' => e = .returned (.tuple #[.int .i64 (termP s k.toNat).1, .bool (termP s k.toNat).2]) ∧ Bl w w' := by
  obtain ⟨K, rfl⟩ := Int.eq_ofNat_of_zero_le h0
  have hK : K ≤ 1000000 := by omega
  clear h0 h1
  rw [Int.toNat_natCast]
  obtain ⟨a1, a2, a3⟩ := ha
  have l1 := ok.h30
  have l2 := ok.p30
  have l3 : s.G.length ≤ 30 := by rw [ok.gp]; exact ok.p30
  obtain ⟨ah, ch, rfl, hch⟩ := a1.form
  obtain ⟨ap, cp, rfl, hcp⟩ := a2.form
  obtain ⟨ag, cg, rfl, hcg⟩ := a3.form
  have hBw := bl_alloc (bl_refl w) (.cells #[.slice ah s.H.length ch, .slice ap s.P.length cp, .slice ag s.G.length cg] 26)
  by_cases c1 : K < s.H.length
  · obtain ⟨b1, o1, rfl, x, hxx, hcx, hrx⟩ := a1.cellAt hBw c1
    have HR := Lib.hid (show (x, true) = termP s K by rw [termP, if_pos c1]; simp [hxx])
    clear hxx
    go_enter Tryz.func47, Tryz.ntmps47
    go_wp2_with (go_at_call 54; refine (lsize_any _ _ _ _ (by omega)).mono ?_; rintro e w' ⟨rfl, rfl⟩)
    go_ret2
    exact ⟨ret_ib HR.out, bl_alloc (bl_refl _) _⟩
  · by_cases c2 : s.P.length = 0
    · have HR := Lib.hid (show ((0 : Int), false) = termP s K by rw [termP, if_neg c1, if_pos c2])
      have c2' : ((s.P.length : Int) == 0) = true := beq_iff_eq.2 (by omega)
      clear c2
      go_enter Tryz.func47, Tryz.ntmps47
      go_wp2_with (go_at_call 54; refine (lsize_any _ _ _ _ (by omega)).mono ?_; rintro e w' ⟨rfl, rfl⟩)
      go_ret2
      exact ⟨ret_ib HR.out, bl_alloc (bl_refl _) _⟩
    · have c2' : ((s.P.length : Int) == 0) = false := beq_eq_false_iff_ne.2 (by omega)
      obtain ⟨Q, M, hQ, hM, hd, hm, HR⟩ := termP_split s K c1 c2
      have hM' : M < s.G.length := by rw [ok.gp]; exact hM
      obtain ⟨b2, o2, rfl, x, hxx, hcx, hrx⟩ := a2.cellAt hBw hM
      obtain ⟨b3, o3, rfl, y, hy, hcy, hry⟩ := a3.cellAt hBw hM'
      have hx1 := ok.per _ _ hxx
      have hy1 := ok.gr _ _ hy
      have hQ2 : Q ≤ 1000000 := by omega
      have hpb := prod_bd (Q : Int) y 1000000 1000000 (by omega) (by omega) hy1.1 hy1.2
      have HR := Lib.hid (HR x y hxx hy)
      clear hxx hy c2 ok
      obtain ⟨hp0, hp1⟩ := hpb
      obtain ⟨hx0, hx1⟩ := hx1
      obtain ⟨hy0, hy1⟩ := hy1
      go_enter Tryz.func47, Tryz.ntmps47
      go_wp2_with (go_at_call 54; refine (lsize_any _ _ _ _ (by omega)).mono ?_; rintro e w' ⟨rfl, rfl⟩)
      go_quiet (fail)
      go_wp2
      go_ret2
      exact ⟨ret_ib HR.out, (bl_alloc (bl_refl _) _).trans (Drawn.below ⟨_, rfl⟩ _)⟩

set_option maxRecDepth 100000 in
set_option maxHeartbeats 1600000 in
theorem sterm_any (h p g : Value) (s : Src) (k : Int) (w : World) (b : Nat) (ha : SlS w h p g s) (hx : Bx w b #[h, p, g]) (ok : OkPer s) (h0 : 0 ≤ k) (h1 : k ≤ 1000000) :
    Calls Tryz.prog 50 #[.pointer (some ⟨b, 0, none⟩), .int .i64 k] w fun e w' => e = .returned (.tuple #[.int .i64 (termP s k.toNat).1, .bool (termP s k.toNat).2]) ∧ Bl w w' := by
  obtain ⟨K, rfl⟩ := Int.eq_ofNat_of_zero_le h0
  have hK : K ≤ 1000000 := by omega
  clear h0 h1
  rw [Int.toNat_natCast]
  obtain ⟨a1, a2, a3⟩ := ha
  have l1 := ok.h30
  have l2 := ok.p30
  have l3 : s.G.length ≤ 30 := by rw [ok.gp]; exact ok.p30
  obtain ⟨ah, ch, rfl, hch⟩ := a1.form
  obtain ⟨ap, cp, rfl, hcp⟩ := a2.form
  obtain ⟨ag, cg, rfl, hcg⟩ := a3.form
  obtain ⟨cx, fx, zx⟩ := hx.out
  by_cases c1 : K < s.H.length
  · obtain ⟨b1, o1, rfl, x, hxx, hcx, hrx⟩ := a1.cellAt (bl_refl w) c1
    have HR := Lib.hid (show (x, true) = termP s K by rw [termP, if_pos c1]; simp [hxx])
    clear hxx
    go_enter Tryz.func50, Tryz.ntmps50
    go_wp2
    go_ret2
    exact ⟨ret_ib HR.out, bl_refl _⟩
  · by_cases c2 : s.P.length = 0
    · have HR := Lib.hid (show ((0 : Int), false) = termP s K by rw [termP, if_neg c1, if_pos c2])
      have c2' : ((s.P.length : Int) == 0) = true := beq_iff_eq.2 (by omega)
      clear c2
      go_enter Tryz.func50, Tryz.ntmps50
      go_wp2
      go_ret2
      exact ⟨ret_ib HR.out, bl_refl _⟩
    · have c2' : ((s.P.length : Int) == 0) = false := beq_eq_false_iff_ne.2 (by omega)
      obtain ⟨Q, M, hQ, hM, hd, hm, HR⟩ := termP_split s K c1 c2
      have hM' : M < s.G.length := by rw [ok.gp]; exact hM
      obtain ⟨b2, o2, rfl, x, hxx, hcx, hrx⟩ := a2.cellAt (bl_refl w) hM
      obtain ⟨b3, o3, rfl, y, hy, hcy, hry⟩ := a3.cellAt (bl_refl w) hM'
      have hx1 := ok.per _ _ hxx
      have hy1 := ok.gr _ _ hy
      have hQ2 : Q ≤ 1000000 := by omega
      have hpb := prod_bd (Q : Int) y 1000000 1000000 (by omega) (by omega) hy1.1 hy1.2
      have HR := Lib.hid (HR x y hxx hy)
      clear hxx hy c2 ok
      obtain ⟨hp0, hp1⟩ := hpb
      obtain ⟨hx0, hx1⟩ := hx1
      obtain ⟨hy0, hy1⟩ := hy1
      go_enter Tryz.func50, Tryz.ntmps50
      go_wp2
      go_quiet (fail)
      go_wp2
      go_ret2
      exact ⟨ret_ib HR.out, Drawn.below ⟨_, rfl⟩ _⟩

end Go.Proofs.YtndblondleclpaaGreatDoor
