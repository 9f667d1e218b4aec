/- The program's test of a source. No condition. -/
import Derived.Test.YtndblondleclpaaGreatDoorSrcA
namespace Go.Proofs.YtndblondleclpaaGreatDoor
open Go.RowKit
set_option linter.unusedVariables false
set_option linter.unusedSimpArgs false


set_option maxHeartbeats 1600000 in
theorem ivalid_no (h p g : Value) (s : Src) (w : World) (ha : SlS w h p g s) (c : ¬ Shape s) :
    Calls Tryz.prog 25 #[.agg #[h, p, g]] w fun e w' => e = .returned (.bool (okSrc s)) ∧ Bl w w' := by
  obtain ⟨a1, a2, a3⟩ := ha
  have l1 := a1.len
  have l2 := a2.len
  have l3 := a3.len
  obtain ⟨ah, ch, rfl, hch⟩ := a1.form
  obtain ⟨ap, cp, rfl, hcp⟩ := a2.form
  obtain ⟨ag, cg, rfl, hcg⟩ := a3.form
  have HN := Lib.hid (okS_shape c)
  by_cases c1 : s.H.length ≤ 30
  · by_cases c2 : s.P.length ≤ 30
    · by_cases c3 : 0 < s.H.length + s.P.length
      · have c4 : ((s.G.length : Int) != (s.P.length : Int)) = true := by
          have : s.G.length ≠ s.P.length := fun q => c ⟨c1, c2, c3, q⟩
          simp; omega
        clear c
        go_enter Tryz.func25, Tryz.ntmps25
        go_wp2
        go_ret
        exact ⟨ret_bool HN.out, bl_alloc (bl_refl _) _⟩
      · clear c
        go_enter Tryz.func25, Tryz.ntmps25
        go_wp2
        go_ret
        exact ⟨ret_bool HN.out, bl_alloc (bl_refl _) _⟩
    · clear c
      go_enter Tryz.func25, Tryz.ntmps25
      go_wp2
      go_ret
      exact ⟨ret_bool HN.out, bl_alloc (bl_refl _) _⟩
  · clear c
    go_enter Tryz.func25, Tryz.ntmps25
    go_wp2
    go_ret
    exact ⟨ret_bool HN.out, bl_alloc (bl_refl _) _⟩

set_option maxRecDepth 100000 in
set_option maxHeartbeats 1600000 in
theorem ivalid_yes (h p g : Value) (s : Src) (w : World) (ha : SlS w h p g s) (c : Shape s) :
    Calls Tryz.prog 25 #[.agg #[h, p, g]] w fun e w' => e = .returned (.bool (okSrc s)) ∧ Bl w w' := by
  obtain ⟨a1, a2, a3⟩ := ha
  have l1 := a1.len
  have l2 := a2.len
  have l3 := a3.len
  obtain ⟨ah, ch, rfl, hch⟩ := a1.form
  obtain ⟨ap, cp, rfl, hcp⟩ := a2.form
  obtain ⟨ag, cg, rfl, hcg⟩ := a3.form
  obtain ⟨c1, c2, c3, c4⟩ := c
  have d1 : decide (30 < (s.H.length : Int)) = false := by simp; omega
  have d2 : decide (30 < (s.P.length : Int)) = false := by simp; omega
  have c4' : ((s.G.length : Int) != (s.P.length : Int)) = false := by simp; omega
  have c3' : ((s.H.length : Int) + (s.P.length : Int) == 0) = false := by simp; omega
  have C4 := Lib.hid c4
  have C3 := Lib.hid c3
  have c4'' : s.P.length ≤ s.G.length := by omega
  have hBw := bl_alloc (bl_refl w) (.cells #[.slice ah s.H.length ch, .slice ap s.P.length cp, .slice ag s.G.length cg] 26)
  clear c4 c3
  go_enter Tryz.func25, Tryz.ntmps25
  go_wp2
  go_loop [39] (fun i => ∃ k : Nat, k ≤ s.H.length ∧ i = .int .i64 k ∧ (∀ (j : Nat) (x : Int), j < k → s.H[j]? = some x → lowAt j ≤ x ∧ x ≤ 1000000000) ) (fun i => s.H.length - (intOf i).toNat)
  case atStart => exact ⟨0, Nat.zero_le _, rfl, fun j x hj => absurd hj (by omega)⟩
  case round =>
    obtain ⟨k, hk, rfl, hal⟩ := hrel
    have HAL := Lib.hid hal
    clear hal
    by_cases hlt : k < s.H.length
    · obtain ⟨b, o, rfl, x, hx, hcx, hrx⟩ := a1.cellAt hBw hlt
      have HX := Lib.hid hx
      clear hx
      cases e : inB x (lowAt k) 1000000000 with
      | false =>
        have HN := Lib.hid (okS_no (s := s) fun q => inB_not e (q.hd k x HX.out))
        by_cases hk0 : k = 0
        · have e' : inB x (-1000000000) 1000000000 = false := by rw [← e, lowAt, if_pos hk0]
          have hk1 : ((k : Int) == 0) = true := by simp [hk0]
          clear e hk0
          go_wp2_with (go_at_call 46; refine (within_any _ _ _ _).mono ?_; rintro e w' ⟨rfl, rfl⟩)
          go_ret
          exact ⟨ret_bool HN.out, hBw⟩
        · have e' : inB x 1 1000000000 = false := by rw [← e, lowAt, if_neg hk0]
          have hk1 : ((k : Int) == 0) = false := by simp; omega
          clear e hk0
          go_wp2_with (go_at_call 46; refine (within_any _ _ _ _).mono ?_; rintro e w' ⟨rfl, rfl⟩)
          go_ret
          exact ⟨ret_bool HN.out, hBw⟩
      | true =>
        have HT := Lib.hid (upto_succ HAL.out HX.out (inB_iff.1 e))
        by_cases hk0 : k = 0
        · have e' : inB x (-1000000000) 1000000000 = true := by rw [← e, lowAt, if_pos hk0]
          have hk1 : ((k : Int) == 0) = true := by simp [hk0]
          clear e hk0
          go_wp2_with (go_at_call 46; refine (within_any _ _ _ _).mono ?_; rintro e w' ⟨rfl, rfl⟩)
          go_round
          case rel => exact ⟨k + 1, by omega, by go_num, HT.out⟩
          case measure => simp [intOf]; omega
        · have e' : inB x 1 1000000000 = true := by rw [← e, lowAt, if_neg hk0]
          have hk1 : ((k : Int) == 0) = false := by simp; omega
          clear e hk0
          go_wp2_with (go_at_call 46; refine (within_any _ _ _ _).mono ?_; rintro e w' ⟨rfl, rfl⟩)
          go_round
          case rel => exact ⟨k + 1, by omega, by go_num, HT.out⟩
          case measure => simp [intOf]; omega
    · have HD := Lib.hid (upto_all HAL.out (by omega))
      go_wp2
      go_loop [54] (fun i => ∃ k : Nat, k ≤ s.P.length ∧ i = .int .i64 k ∧ (∀ (j : Nat) (x : Int), j < k → s.P[j]? = some x → 1 ≤ x ∧ x ≤ 1000000) ∧ (∀ (j : Nat) (x : Int), j < k → s.G[j]? = some x → 0 ≤ x ∧ x ≤ 1000000) ) (fun i => s.P.length - (intOf i).toNat)
      case atStart => exact ⟨0, Nat.zero_le _, rfl, fun j x hj => absurd hj (by omega), fun j x hj => absurd hj (by omega)⟩
      case round =>
        obtain ⟨m, hm, rfl, hal, hal2⟩ := hrel
        have HAL := Lib.hid hal
        have HAL2 := Lib.hid hal2
        clear hal hal2
        by_cases hlt : m < s.P.length
        · obtain ⟨b, o, rfl, x, hx, hcx, hrx⟩ := a2.cellAt hBw hlt
          obtain ⟨b2, o2, rfl, y, hy, hcy, hry⟩ := a3.cellAt hBw (show m < s.G.length by omega)
          have HX := Lib.hid hx
          have HY := Lib.hid hy
          have hmg : m < s.G.length := by omega
          clear hx hy
          cases e : inB x 1 1000000 with
          | false =>
            have HN := Lib.hid (okS_no (s := s) fun q => inB_not e (q.per m x HX.out))
            go_wp2_with (go_at_call 46; refine (within_any _ _ _ _).mono ?_; rintro e w' ⟨rfl, rfl⟩)
            go_ret
            exact ⟨ret_bool HN.out, hBw⟩
          | true =>
            cases e2 : inB y 0 1000000 with
            | false =>
              have HN := Lib.hid (okS_no (s := s) fun q => inB_not e2 (q.gr m y HY.out))
              go_wp2_with (go_at_call 46; refine (within_any _ _ _ _).mono ?_; rintro e w' ⟨rfl, rfl⟩)
              go_ret
              exact ⟨ret_bool HN.out, hBw⟩
            | true =>
              have HT := Lib.hid (upto_succ HAL.out HX.out (inB_iff.1 e))
              have HT2 := Lib.hid (upto_succ HAL2.out HY.out (inB_iff.1 e2))
              go_wp2_with (go_at_call 46; refine (within_any _ _ _ _).mono ?_; rintro e w' ⟨rfl, rfl⟩)
              go_round
              case rel => exact ⟨m + 1, by omega, by go_num, HT.out, HT2.out⟩
              case measure => simp [intOf]; omega
        · have HP := Lib.hid (upto_all HAL.out (by omega))
          have HG := Lib.hid (upto_all HAL2.out (by have := C4.out; omega))
          go_wp2
          go_ret
          exact ⟨ret_bool (okS_yes ⟨c1, c2, C3.out, C4.out, HD.out, HP.out, HG.out⟩), hBw⟩

theorem ivalid_any (h p g : Value) (s : Src) (w : World) (ha : SlS w h p g s) :
    Calls Tryz.prog 25 #[.agg #[h, p, g]] w fun e w' => e = .returned (.bool (okSrc s)) ∧ Bl w w' := by
  by_cases c : Shape s
  · exact ivalid_yes h p g s w ha c
  · exact ivalid_no h p g s w ha c

end Go.Proofs.YtndblondleclpaaGreatDoor
