/- Some of the texts of this claim, joined in one file: Term, SrcI. -/
import Derived.Test.YtgkelemfbmmgnaaGreatMSv10
/- The term of a source at a place: the program and the reference. Each theorem names its conditions. -/
namespace Go.Proofs.YtgkelemfbmmgnaaGreat
open Go.RowKit
set_option linter.unusedVariables false
set_option linter.unusedSimpArgs false

/-- What the terms of a source need: bounds on its lengths, its period and its growth. -/
structure OkPer (s : Src) : Prop where
  h30 : s.H.length ≤ 1000
  p30 : s.P.length ≤ 30
  gp : s.G.length = s.P.length
  per : ∀ (i : Nat) (x : Int), s.P[i]? = some x → 1 ≤ x ∧ x ≤ 1000000
  gr : ∀ (i : Nat) (x : Int), s.G[i]? = some x → 0 ≤ x ∧ x ≤ 1000000
theorem OkSrc.okPer {s : Src} (x : OkSrc s) : OkPer s := ⟨by have := x.h30; omega, x.p30, x.gp, x.per, x.gr⟩
theorem ret_ib {x : Int} {b : Bool} {r : Int × Bool} (h : (x, b) = r) : Ending.returned (.tuple #[.int .i64 x, .bool b]) = .returned (.tuple #[.int .i64 r.1, .bool r.2]) := by subst h; rfl
theorem ret_ii {x b : Int} {r : Int × Int} (h : (x, b) = r) : Ending.returned (.tuple #[.int .i64 x, .int .i64 b]) = .returned (.tuple #[.int .i64 r.1, .int .i64 r.2]) := by subst h; rfl
/-- The term at a place of a valid source; false if there is none. -/
def termP (s : Src) (k : Nat) : Int × Bool :=
  if k < s.H.length then (s.H.getD k 0, true)
  else if s.P.length = 0 then (0, false)
  else (s.P.getD ((k - s.H.length) % s.P.length) 0 + ((k - s.H.length) / s.P.length : Nat) * s.G.getD ((k - s.H.length) % s.P.length) 0, true)

theorem termP_split (s : Src) (K : Nat) (c1 : ¬ K < s.H.length) (c2 : ¬ s.P.length = 0) : ∃ Q M : Nat, Q ≤ K ∧ M < s.P.length ∧ ((K : Int) - (s.H.length : Int)) / (s.P.length : Int) = (Q : Int) ∧ ((K : Int) - (s.H.length : Int)) % (s.P.length : Int) = (M : Int) ∧
    ∀ x y, s.P[M]? = some x → s.G[M]? = some y → (x + (Q : Int) * y, true) = termP s K := by
  have e : (K : Int) - (s.H.length : Int) = ((K - s.H.length : Nat) : Int) := by omega
  refine ⟨(K - s.H.length) / s.P.length, (K - s.H.length) % s.P.length, Nat.le_trans (Nat.div_le_self _ _) (by omega), Nat.mod_lt _ (by omega), by rw [e]; rfl, by rw [e]; rfl, fun x y hx hy => ?_⟩
  rw [termP, if_neg c1, if_neg c2]
  simp [hx, hy]

theorem prod_bd (a b A B : Int) (ha : 0 ≤ a) (ha' : a ≤ A) (hb : 0 ≤ b) (hb' : b ≤ B) : 0 ≤ a * b ∧ a * b ≤ A * B :=
  ⟨Int.mul_nonneg ha hb, Int.mul_le_mul ha' hb' hb (by omega)⟩

set_option maxRecDepth 100000 in
set_option maxHeartbeats 1600000 in
theorem iterm_any (h p g : Value) (s : Src) (k : Int) (w : World) (ha : SlS w h p g s) (ok : OkPer s) (h0 : 0 ≤ k) (h1 : k ≤ 1000000) :
    Calls Tryz.prog 47 #[.agg #[h, p, g], .int .i64 k] w fun e w' => e = .returned (.tuple #[.int .i64 (termP s k.toNat).1, .bool (termP s k.toNat).2]) ∧ Bl w w' := by
  obtain ⟨K, rfl⟩ := Int.eq_ofNat_of_zero_le h0
  have hK : K ≤ 1000000 := by omega
  clear h0 h1
  rw [Int.toNat_natCast]
  obtain ⟨a1, a2, a3⟩ := ha
  have l1 := ok.h30
  have l2 := ok.p30
  have l3 : s.G.length ≤ 30 := by rw [ok.gp]; exact ok.p30
  obtain ⟨ah, ch, rfl, hch⟩ := a1.form
  obtain ⟨ap, cp, rfl, hcp⟩ := a2.form
  obtain ⟨ag, cg, rfl, hcg⟩ := a3.form
  have hBw := bl_alloc (bl_refl w) (.cells #[.slice ah s.H.length ch, .slice ap s.P.length cp, .slice ag s.G.length cg] 29)
  by_cases c1 : K < s.H.length
  · obtain ⟨b1, o1, rfl, x, hxx, hcx, hrx⟩ := a1.cellAt hBw c1
    have HR := Lib.hid (show (x, true) = termP s K by rw [termP, if_pos c1]; simp [hxx])
    clear hxx
    go_enter Tryz.func47, Tryz.ntmps47
    go_wp2_with (go_at_call 40; refine (lsize_any _ _ _ _ (by omega)).mono ?_; rintro e w' ⟨rfl, rfl⟩)
    go_ret2
    exact ⟨ret_ib HR.out, bl_alloc (bl_refl _) _⟩
  · by_cases c2 : s.P.length = 0
    · have HR := Lib.hid (show ((0 : Int), false) = termP s K by rw [termP, if_neg c1, if_pos c2])
      have c2' : ((s.P.length : Int) == 0) = true := beq_iff_eq.2 (by omega)
      clear c2
      go_enter Tryz.func47, Tryz.ntmps47
      go_wp2_with (go_at_call 40; refine (lsize_any _ _ _ _ (by omega)).mono ?_; rintro e w' ⟨rfl, rfl⟩)
      go_ret2
      exact ⟨ret_ib HR.out, bl_alloc (bl_refl _) _⟩
    · have c2' : ((s.P.length : Int) == 0) = false := beq_eq_false_iff_ne.2 (by omega)
      obtain ⟨Q, M, hQ, hM, hd, hm, HR⟩ := termP_split s K c1 c2
      have hM' : M < s.G.length := by rw [ok.gp]; exact hM
      obtain ⟨b2, o2, rfl, x, hxx, hcx, hrx⟩ := a2.cellAt hBw hM
      obtain ⟨b3, o3, rfl, y, hy, hcy, hry⟩ := a3.cellAt hBw hM'
      have hx1 := ok.per _ _ hxx
      have hy1 := ok.gr _ _ hy
      have hQ2 : Q ≤ 1000000 := by omega
      have hpb := prod_bd (Q : Int) y 1000000 1000000 (by omega) (by omega) hy1.1 hy1.2
      have HR := Lib.hid (HR x y hxx hy)
      clear hxx hy c2 ok
      obtain ⟨hp0, hp1⟩ := hpb
      obtain ⟨hx0, hx1⟩ := hx1
      obtain ⟨hy0, hy1⟩ := hy1
      go_enter Tryz.func47, Tryz.ntmps47
      go_wp2_with (go_at_call 40; refine (lsize_any _ _ _ _ (by omega)).mono ?_; rintro e w' ⟨rfl, rfl⟩)
      go_quiet (fail)
      go_wp2
      go_ret2
      exact ⟨ret_ib HR.out, (bl_alloc (bl_refl _) _).trans (Drawn.below ⟨_, rfl⟩ _)⟩

set_option maxRecDepth 100000 in
set_option maxHeartbeats 1600000 in
theorem sterm_any (h p g : Value) (s : Src) (k : Int) (w : World) (b : Nat) (ha : SlS w h p g s) (hx : Bx w b #[h, p, g]) (ok : OkPer s) (h0 : 0 ≤ k) (h1 : k ≤ 1000000) :
    Calls Tryz.prog 53 #[.pointer (some ⟨b, 0, none⟩), .int .i64 k] w fun e w' => e = .returned (.tuple #[.int .i64 (termP s k.toNat).1, .bool (termP s k.toNat).2]) ∧ Bl w w' := by
  obtain ⟨K, rfl⟩ := Int.eq_ofNat_of_zero_le h0
  have hK : K ≤ 1000000 := by omega
  clear h0 h1
  rw [Int.toNat_natCast]
  obtain ⟨a1, a2, a3⟩ := ha
  have l1 := ok.h30
  have l2 := ok.p30
  have l3 : s.G.length ≤ 30 := by rw [ok.gp]; exact ok.p30
  obtain ⟨ah, ch, rfl, hch⟩ := a1.form
  obtain ⟨ap, cp, rfl, hcp⟩ := a2.form
  obtain ⟨ag, cg, rfl, hcg⟩ := a3.form
  obtain ⟨cx, fx, zx⟩ := hx.out
  by_cases c1 : K < s.H.length
  · obtain ⟨b1, o1, rfl, x, hxx, hcx, hrx⟩ := a1.cellAt (bl_refl w) c1
    have HR := Lib.hid (show (x, true) = termP s K by rw [termP, if_pos c1]; simp [hxx])
    clear hxx
    go_enter Tryz.func53, Tryz.ntmps53
    go_wp2
    go_ret2
    exact ⟨ret_ib HR.out, bl_refl _⟩
  · by_cases c2 : s.P.length = 0
    · have HR := Lib.hid (show ((0 : Int), false) = termP s K by rw [termP, if_neg c1, if_pos c2])
      have c2' : ((s.P.length : Int) == 0) = true := beq_iff_eq.2 (by omega)
      clear c2
      go_enter Tryz.func53, Tryz.ntmps53
      go_wp2
      go_ret2
      exact ⟨ret_ib HR.out, bl_refl _⟩
    · have c2' : ((s.P.length : Int) == 0) = false := beq_eq_false_iff_ne.2 (by omega)
      obtain ⟨Q, M, hQ, hM, hd, hm, HR⟩ := termP_split s K c1 c2
      have hM' : M < s.G.length := by rw [ok.gp]; exact hM
      obtain ⟨b2, o2, rfl, x, hxx, hcx, hrx⟩ := a2.cellAt (bl_refl w) hM
      obtain ⟨b3, o3, rfl, y, hy, hcy, hry⟩ := a3.cellAt (bl_refl w) hM'
      have hx1 := ok.per _ _ hxx
      have hy1 := ok.gr _ _ hy
      have hQ2 : Q ≤ 1000000 := by omega
      have hpb := prod_bd (Q : Int) y 1000000 1000000 (by omega) (by omega) hy1.1 hy1.2
      have HR := Lib.hid (HR x y hxx hy)
      clear hxx hy c2 ok
      obtain ⟨hp0, hp1⟩ := hpb
      obtain ⟨hx0, hx1⟩ := hx1
      obtain ⟨hy0, hy1⟩ := hy1
      go_enter Tryz.func53, Tryz.ntmps53
      go_wp2
      go_quiet (fail)
      go_wp2
      go_ret2
      exact ⟨ret_ib HR.out, Drawn.below ⟨_, rfl⟩ _⟩

end Go.Proofs.YtgkelemfbmmgnaaGreat

/- The program's test of a source. No condition. -/
namespace Go.Proofs.YtgkelemfbmmgnaaGreat
open Go.RowKit
set_option linter.unusedVariables false
set_option linter.unusedSimpArgs false


set_option maxHeartbeats 1600000 in
theorem ivalid_no (h p g : Value) (s : Src) (w : World) (ha : SlS w h p g s) (c : ¬ Shape s) :
    Calls Tryz.prog 29 #[.agg #[h, p, g]] w fun e w' => e = .returned (.bool (okSrc s)) ∧ Bl w w' := by
  obtain ⟨a1, a2, a3⟩ := ha
  have l1 := a1.len
  have l2 := a2.len
  have l3 := a3.len
  obtain ⟨ah, ch, rfl, hch⟩ := a1.form
  obtain ⟨ap, cp, rfl, hcp⟩ := a2.form
  obtain ⟨ag, cg, rfl, hcg⟩ := a3.form
  have HN := Lib.hid (okS_shape c)
  by_cases c1 : s.H.length ≤ 30
  · by_cases c2 : s.P.length ≤ 30
    · by_cases c3 : 0 < s.H.length + s.P.length
      · have c4 : ((s.G.length : Int) != (s.P.length : Int)) = true := by
          have : s.G.length ≠ s.P.length := fun q => c ⟨c1, c2, c3, q⟩
          simp; omega
        clear c
        go_enter Tryz.func29, Tryz.ntmps29
        go_wp2
        go_ret
        exact ⟨ret_bool HN.out, bl_alloc (bl_refl _) _⟩
      · clear c
        go_enter Tryz.func29, Tryz.ntmps29
        go_wp2
        go_ret
        exact ⟨ret_bool HN.out, bl_alloc (bl_refl _) _⟩
    · clear c
      go_enter Tryz.func29, Tryz.ntmps29
      go_wp2
      go_ret
      exact ⟨ret_bool HN.out, bl_alloc (bl_refl _) _⟩
  · clear c
    go_enter Tryz.func29, Tryz.ntmps29
    go_wp2
    go_ret
    exact ⟨ret_bool HN.out, bl_alloc (bl_refl _) _⟩

set_option maxRecDepth 100000 in
set_option maxHeartbeats 1600000 in
theorem ivalid_yes (h p g : Value) (s : Src) (w : World) (ha : SlS w h p g s) (c : Shape s) :
    Calls Tryz.prog 29 #[.agg #[h, p, g]] w fun e w' => e = .returned (.bool (okSrc s)) ∧ Bl w w' := by
  obtain ⟨a1, a2, a3⟩ := ha
  have l1 := a1.len
  have l2 := a2.len
  have l3 := a3.len
  obtain ⟨ah, ch, rfl, hch⟩ := a1.form
  obtain ⟨ap, cp, rfl, hcp⟩ := a2.form
  obtain ⟨ag, cg, rfl, hcg⟩ := a3.form
  obtain ⟨c1, c2, c3, c4⟩ := c
  have d1 : decide (30 < (s.H.length : Int)) = false := by simp; omega
  have d2 : decide (30 < (s.P.length : Int)) = false := by simp; omega
  have c4' : ((s.G.length : Int) != (s.P.length : Int)) = false := by simp; omega
  have c3' : ((s.H.length : Int) + (s.P.length : Int) == 0) = false := by simp; omega
  have C4 := Lib.hid c4
  have C3 := Lib.hid c3
  have c4'' : s.P.length ≤ s.G.length := by omega
  have hBw := bl_alloc (bl_refl w) (.cells #[.slice ah s.H.length ch, .slice ap s.P.length cp, .slice ag s.G.length cg] 29)
  clear c4 c3
  go_enter Tryz.func29, Tryz.ntmps29
  go_wp2
  go_loop [39] (fun i => ∃ k : Nat, k ≤ s.H.length ∧ i = .int .i64 k ∧ (∀ (j : Nat) (x : Int), j < k → s.H[j]? = some x → lowAt j ≤ x ∧ x ≤ 1000000000) ) (fun i => s.H.length - (intOf i).toNat)
  case atStart => exact ⟨0, Nat.zero_le _, rfl, fun j x hj => absurd hj (by omega)⟩
  case round =>
    obtain ⟨k, hk, rfl, hal⟩ := hrel
    have HAL := Lib.hid hal
    clear hal
    by_cases hlt : k < s.H.length
    · obtain ⟨b, o, rfl, x, hx, hcx, hrx⟩ := a1.cellAt hBw hlt
      have HX := Lib.hid hx
      clear hx
      cases e : inB x (lowAt k) 1000000000 with
      | false =>
        have HN := Lib.hid (okS_no (s := s) fun q => inB_not e (q.hd k x HX.out))
        by_cases hk0 : k = 0
        · have e' : inB x (-1000000000) 1000000000 = false := by rw [← e, lowAt, if_pos hk0]
          have hk1 : ((k : Int) == 0) = true := by simp [hk0]
          clear e hk0
          go_wp2_with (go_at_call 38; refine (within_any _ _ _ _).mono ?_; rintro e w' ⟨rfl, rfl⟩)
          go_ret
          exact ⟨ret_bool HN.out, hBw⟩
        · have e' : inB x 1 1000000000 = false := by rw [← e, lowAt, if_neg hk0]
          have hk1 : ((k : Int) == 0) = false := by simp; omega
          clear e hk0
          go_wp2_with (go_at_call 38; refine (within_any _ _ _ _).mono ?_; rintro e w' ⟨rfl, rfl⟩)
          go_ret
          exact ⟨ret_bool HN.out, hBw⟩
      | true =>
        have HT := Lib.hid (upto_succ HAL.out HX.out (inB_iff.1 e))
        by_cases hk0 : k = 0
        · have e' : inB x (-1000000000) 1000000000 = true := by rw [← e, lowAt, if_pos hk0]
          have hk1 : ((k : Int) == 0) = true := by simp [hk0]
          clear e hk0
          go_wp2_with (go_at_call 38; refine (within_any _ _ _ _).mono ?_; rintro e w' ⟨rfl, rfl⟩)
          go_round
          case rel => exact ⟨k + 1, by omega, by go_num, HT.out⟩
          case measure => simp [intOf]; omega
        · have e' : inB x 1 1000000000 = true := by rw [← e, lowAt, if_neg hk0]
          have hk1 : ((k : Int) == 0) = false := by simp; omega
          clear e hk0
          go_wp2_with (go_at_call 38; refine (within_any _ _ _ _).mono ?_; rintro e w' ⟨rfl, rfl⟩)
          go_round
          case rel => exact ⟨k + 1, by omega, by go_num, HT.out⟩
          case measure => simp [intOf]; omega
    · have HD := Lib.hid (upto_all HAL.out (by omega))
      go_wp2
      go_loop [54] (fun i => ∃ k : Nat, k ≤ s.P.length ∧ i = .int .i64 k ∧ (∀ (j : Nat) (x : Int), j < k → s.P[j]? = some x → 1 ≤ x ∧ x ≤ 1000000) ∧ (∀ (j : Nat) (x : Int), j < k → s.G[j]? = some x → 0 ≤ x ∧ x ≤ 1000000) ) (fun i => s.P.length - (intOf i).toNat)
      case atStart => exact ⟨0, Nat.zero_le _, rfl, fun j x hj => absurd hj (by omega), fun j x hj => absurd hj (by omega)⟩
      case round =>
        obtain ⟨m, hm, rfl, hal, hal2⟩ := hrel
        have HAL := Lib.hid hal
        have HAL2 := Lib.hid hal2
        clear hal hal2
        by_cases hlt : m < s.P.length
        · obtain ⟨b, o, rfl, x, hx, hcx, hrx⟩ := a2.cellAt hBw hlt
          obtain ⟨b2, o2, rfl, y, hy, hcy, hry⟩ := a3.cellAt hBw (show m < s.G.length by omega)
          have HX := Lib.hid hx
          have HY := Lib.hid hy
          have hmg : m < s.G.length := by omega
          clear hx hy
          cases e : inB x 1 1000000 with
          | false =>
            have HN := Lib.hid (okS_no (s := s) fun q => inB_not e (q.per m x HX.out))
            go_wp2_with (go_at_call 38; refine (within_any _ _ _ _).mono ?_; rintro e w' ⟨rfl, rfl⟩)
            go_ret
            exact ⟨ret_bool HN.out, hBw⟩
          | true =>
            cases e2 : inB y 0 1000000 with
            | false =>
              have HN := Lib.hid (okS_no (s := s) fun q => inB_not e2 (q.gr m y HY.out))
              go_wp2_with (go_at_call 38; refine (within_any _ _ _ _).mono ?_; rintro e w' ⟨rfl, rfl⟩)
              go_ret
              exact ⟨ret_bool HN.out, hBw⟩
            | true =>
              have HT := Lib.hid (upto_succ HAL.out HX.out (inB_iff.1 e))
              have HT2 := Lib.hid (upto_succ HAL2.out HY.out (inB_iff.1 e2))
              go_wp2_with (go_at_call 38; refine (within_any _ _ _ _).mono ?_; rintro e w' ⟨rfl, rfl⟩)
              go_round
              case rel => exact ⟨m + 1, by omega, by go_num, HT.out, HT2.out⟩
              case measure => simp [intOf]; omega
        · have HP := Lib.hid (upto_all HAL.out (by omega))
          have HG := Lib.hid (upto_all HAL2.out (by have := C4.out; omega))
          go_wp2
          go_ret
          exact ⟨ret_bool (okS_yes ⟨c1, c2, C3.out, C4.out, HD.out, HP.out, HG.out⟩), hBw⟩

theorem ivalid_any (h p g : Value) (s : Src) (w : World) (ha : SlS w h p g s) :
    Calls Tryz.prog 29 #[.agg #[h, p, g]] w fun e w' => e = .returned (.bool (okSrc s)) ∧ Bl w w' := by
  by_cases c : Shape s
  · exact ivalid_yes h p g s w ha c
  · exact ivalid_no h p g s w ha c

end Go.Proofs.YtgkelemfbmmgnaaGreat

