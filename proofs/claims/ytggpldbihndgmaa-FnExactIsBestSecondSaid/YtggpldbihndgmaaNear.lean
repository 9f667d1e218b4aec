/- NearerSide: the program and the reference give the same. No condition. -/
import Derived.Test.YtggpldbihndgmaaLow
import Derived.Test.YtggpldbihndgmaaCmp
namespace Go.Proofs.Ytggpldbihndgmaa
open Go.RowKit
set_option linter.unusedVariables false
set_option linter.unusedSimpArgs false

/-- There is always a last pair. -/
theorem SP.last {N D m : Int} (hg : gcdI N D = 1) (hm : m < D) : ∀ (k : Nat) (a b c d : Int), SP N D m a b c d → 2 * m - b - d ≤ k → ∃ a b c d, SP N D m a b c d ∧ m < b + d
  | 0, a, b, c, d, x, h => ⟨a, b, c, d, x, by have := x.bm; have := x.dm; have := x.hb; have := x.hd; omega⟩
  | k + 1, a, b, c, d, x, h => by
    by_cases hx : m < b + d
    · exact ⟨a, b, c, d, x, hx⟩
    · have hb := x.hb
      have hd := x.hd
      have hne := not_own (N := N) (D := D) (a := a + c) (b := b + d) hg (by omega) (by omega)
      have e : N * (b + d) - (a + c) * D = (N * b - a * D) - (c * D - N * d) := by grind
      rcases Int.lt_or_gt_of_ne hne with q | q
      · have y := SP.stepHigh x hg hm (k := 1) (by omega) (by omega) (by omega)
        exact SP.last hg hm k _ _ _ _ y (by push_cast at h; omega)
      · have y := SP.stepLow x hg hm (k := 1) (by omega) (by omega) (by omega)
        exact SP.last hg hm k _ _ _ _ y (by push_cast at h; omega)
theorem sidesF_spec {N D m : Int} (hg : gcdI N D = 1) (h1 : 1 ≤ m) (hm : ¬ D ≤ m) : SP N D m (sidesF N D m).1.1 (sidesF N D m).1.2 (sidesF N D m).2.1 (sidesF N D m).2.2 ∧ m < (sidesF N D m).1.2 + (sidesF N D m).2.2 := by
  obtain ⟨a, b, c, d, x, hx⟩ := SP.last hg (show m < D by omega) (2 * m).toNat _ _ _ _ (SP.start hg (show m < D by omega) h1) (by omega)
  rw [sidesF_eq (by omega) hm x hx]
  exact ⟨x, hx⟩
/-- Numerators stay about as small as the fraction's own. -/
theorem SP.num {N D m a b c d L : Int} (hN : -L ≤ N ∧ N ≤ L) (hL : 0 ≤ L) (hm : m < D) (x : SP N D m a b c d) : (-(L + 1) ≤ a ∧ a ≤ L + 1) ∧ (-(L + 1) ≤ c ∧ c ≤ L + 1) := by
  have hb := x.hb; have hd := x.hd; have bm := x.bm; have dm := x.dm
  have e1 := x.lo; have e2 := x.lo'; have e3 := x.hi; have e4 := x.hi'
  have key : ∀ b : Int, 1 ≤ b → b ≤ m → -(L * D) ≤ N * b ∧ N * b ≤ L * D := by
    intro b h1 h2
    have p := mul_bd hN.1 hN.2 (show 0 ≤ b by omega) (show b ≤ D by omega)
    exact p
  have kb := key b hb bm
  have kd := key d hd dm
  have q : ∀ z : Int, -(L * D) - D ≤ z * D → z * D ≤ L * D + D → -(L + 1) ≤ z ∧ z ≤ L + 1 := by
    intro z h1 h2
    constructor
    · rcases Int.lt_or_le z (-(L + 1)) with h | h
      · have := Int.mul_le_mul_of_nonneg_right (show z ≤ -(L + 1) - 1 by omega) (show 0 ≤ D by omega)
        have e : (-(L + 1) - 1) * D = -(L * D) - D - D := by grind
        omega
      · exact h
    · rcases Int.lt_or_le (L + 1) z with h | h
      · have := Int.mul_le_mul_of_nonneg_right (show L + 1 + 1 ≤ z by omega) (show 0 ≤ D by omega)
        have e : (L + 1 + 1) * D = L * D + D + D := by grind
        omega
      · exact h
  exact ⟨q a (by omega) (by omega), q c (by omega) (by omega)⟩
/-- What is known of both sides of a small fraction. -/
theorem sides_small {n d m a b p q : Int} (ok : okF n d = true) (h1 : 1 ≤ m) (hn : -1000000 ≤ n ∧ n ≤ 1000000) (hd : d ≤ 1000000) (h : sidesF n d m = ((a, b), (p, q))) :
    SmallP n d a b p q ∧ offF n d a b = n * b - a * d ∧ offF n d p q = p * d - n * q := by
  have hok := okF_bd ok
  by_cases hm : d ≤ m
  · rw [sidesF_own hm] at h
    simp at h
    obtain ⟨⟨rfl, rfl⟩, rfl, rfl⟩ := h
    refine ⟨by constructor <;> omega, ?_, ?_⟩ <;> simp [offF, ab]
  · have s := (sidesF_spec hok.2.2.2.2 h1 hm).1
    rw [h] at s
    simp only [] at s
    have b := SP.num hn (by omega) (show m < d by omega) s
    have s1 := s.hb; have s2 := s.hd; have s3 := s.bm; have s4 := s.dm; have s5 := s.lo; have s6 := s.hi
    refine ⟨by constructor <;> omega, ?_, ?_⟩
    · rw [offF, ab_pos (by omega)]
    · rw [offF, ab_neg (by omega)]; omega
theorem around_eq {N D a b p q : Int} (h : okF N D = true) (m : Int) (h1 : 1 ≤ m) (hs : sidesF N D m = ((a, b), (p, q))) (w : World) :
    Calls Try.prog 80 #[.agg #[.int .i64 N, .int .i64 D], .int .i64 m] w fun r w' => r = .returned (.tuple #[.agg #[.int .i64 a, .int .i64 b], .agg #[.int .i64 p, .int .i64 q]]) ∧ Bl w w' := by
  have := around_any h m h1 w
  rw [hs] at this
  exact this
theorem side_lo {N D a b p q : Int} (h : okF N D = true) (m : Int) (h1 : 1 ≤ m) (hs : sidesF N D m = ((a, b), (p, q))) (w : World) :
    Calls Try.prog 78 #[.agg #[.int .i64 N, .int .i64 D], .int .i64 m, .int .i64 1] w fun r w' => r = .returned (.agg #[.int .i64 a, .int .i64 b]) ∧ Bl w w' := by
  have := side_any h m 1 h1 w
  rw [show sideF N D m 1 = (sidesF N D m).1 from if_pos (by decide), hs] at this
  exact this
theorem side_hi {N D a b p q : Int} (h : okF N D = true) (m : Int) (h1 : 1 ≤ m) (hs : sidesF N D m = ((a, b), (p, q))) (w : World) :
    Calls Try.prog 78 #[.agg #[.int .i64 N, .int .i64 D], .int .i64 m, .int .i64 (-1)] w fun r w' => r = .returned (.agg #[.int .i64 p, .int .i64 q]) ∧ Bl w w' := by
  have := side_any h m (-1) h1 w
  rw [show sideF N D m (-1) = (sidesF N D m).2 from if_neg (by decide), hs] at this
  exact this

def nearC (n d m : Int) : Int := if okF n d then (if inB m 1 10000 && inB n (-1000000) 1000000 && decide (d ≤ 1000000) then 0 else 2) else 1
noncomputable def nearerF (n d m : Int) : Int × Int := if nearC n d m = 0 then (cmpErrF n d (sidesF n d m).1.1 (sidesF n d m).1.2 (sidesF n d m).2.1 (sidesF n d m).2.2, 0) else (0, nearC n d m)
theorem ret_ii2 {r : Int × Int} {x b : Int} (h : r = (x, b)) : Ending.returned (.tuple #[.int .i64 x, .int .i64 b]) = .returned (.tuple #[.int .i64 r.1, .int .i64 r.2]) := by subst h; rfl
theorem nearerF_bad {n d m c : Int} (h : nearC n d m = c) (hc : c ≠ 0) : nearerF n d m = (0, c) := by rw [nearerF, h, if_neg hc]
theorem nearerF_ok {n d m a b p q : Int} (h : nearC n d m = 0) (hs : sidesF n d m = ((a, b), (p, q))) : nearerF n d m = (cmpErrF n d a b p q, 0) := by rw [nearerF, if_pos h, hs]

set_option maxRecDepth 100000 in
set_option maxHeartbeats 1600000 in
theorem impl_NearerSide (n d m : Int) (w : World) :
    Calls Try.prog 48 #[.agg #[.int .i64 n, .int .i64 d], .int .i64 m] w fun r w' => r = .returned (.tuple #[.int .i64 (nearerF n d m).1, .int .i64 (nearerF n d m).2]) ∧ Bl w w' := by
  cases e1 : okF n d with
  | false =>
    have HA := Lib.hid (show askC n d m 10000 = 1 by simp [askC, e1])
    have HC : nearC n d m = 1 := by simp [nearC, e1]
    have HR := Lib.hid (nearerF_bad HC (by decide))
    clear HC
    clear e1
    go_enter Try.func48, Try.ntmps48
    go_wp2_with fail
    refine (between_any n d m 10000 _).mono ?_
    rintro e w1 ⟨rfl, hb1⟩
    have B1 : Bl w w1 := bl_call (bl_alloc (bl_refl _) _) hb1
    have xF_1 : Bx w1 (w.heap.size) #[.int .i64 (n), .int .i64 (d)] := (Bx.new (b := w.heap.size) _ #[.int .i64 (n), .int .i64 (d)] 35 (by first | rfl | simp)).below hb1
    obtain ⟨cF_1, fF_1, zF_1⟩ := xF_1.out
    rw [HA.out]
    go_wp2
    go_ret2
    exact ⟨ret_ii2 HR.out, B1⟩
  | true =>
    cases e2 : inB m 1 10000 with
    | false =>
      have HA := Lib.hid (show askC n d m 10000 = 2 by simp [askC, e1, e2])
      have HC : nearC n d m = 2 := by simp [nearC, e1, e2]
      have HR := Lib.hid (nearerF_bad HC (by decide))
      clear HC
      clear e1 e2
      go_enter Try.func48, Try.ntmps48
      go_wp2_with fail
      refine (between_any n d m 10000 _).mono ?_
      rintro e w1 ⟨rfl, hb1⟩
      have B1 : Bl w w1 := bl_call (bl_alloc (bl_refl _) _) hb1
      have xF_1 : Bx w1 (w.heap.size) #[.int .i64 (n), .int .i64 (d)] := (Bx.new (b := w.heap.size) _ #[.int .i64 (n), .int .i64 (d)] 35 (by first | rfl | simp)).below hb1
      obtain ⟨cF_1, fF_1, zF_1⟩ := xF_1.out
      rw [HA.out]
      go_wp2
      go_ret2
      exact ⟨ret_ii2 HR.out, B1⟩
    | true =>
      cases e3 : inB n (-1000000) 1000000 with
      | false =>
        have HA := Lib.hid (show askC n d m 10000 = 0 by simp [askC, e1, e2])
        have HC : nearC n d m = 2 := by simp [nearC, e1, e2, e3]
        have HR := Lib.hid (nearerF_bad HC (by decide))
        clear HC
        have HI := Lib.hid e3
        clear e3
        clear e1 e2
        go_enter Try.func48, Try.ntmps48
        go_wp2_with fail
        refine (between_any n d m 10000 _).mono ?_
        rintro e w1 ⟨rfl, hb1⟩
        have B1 : Bl w w1 := bl_call (bl_alloc (bl_refl _) _) hb1
        have xF_1 : Bx w1 (w.heap.size) #[.int .i64 (n), .int .i64 (d)] := (Bx.new (b := w.heap.size) _ #[.int .i64 (n), .int .i64 (d)] 35 (by first | rfl | simp)).below hb1
        obtain ⟨cF_1, fF_1, zF_1⟩ := xF_1.out
        rw [HA.out]
        go_wp2_with fail
        refine (within_any _ _ _ _).mono ?_
        rintro _ _ ⟨rfl, rfl⟩
        rw [HI.out]
        go_wp2
        go_ret2
        exact ⟨ret_ii2 HR.out, B1⟩
      | true =>
        by_cases h4 : d ≤ 1000000
        ·
          have HA := Lib.hid (show askC n d m 10000 = 0 by simp [askC, e1, e2])
          have HC : nearC n d m = 0 := by simp [nearC, e1, e2, e3, h4]
          obtain ⟨⟨⟨a, b⟩, ⟨p, q⟩⟩, hs⟩ : ∃ x, x = sidesF n d m := ⟨_, rfl⟩
          have HSD := Lib.hid hs.symm
          have HR := Lib.hid (nearerF_ok HC hs.symm)
          clear HC hs
          have HOK := Lib.hid e1
          have hm := inB_iff.1 e2
          have hn := inB_iff.1 e3
          have HS := Lib.hid (sides_small e1 hm.1 hn h4 HSD.out)
          have HI := Lib.hid e3
          clear e3
          clear e1 e2
          go_enter Try.func48, Try.ntmps48
          go_wp2_with fail
          refine (between_any n d m 10000 _).mono ?_
          rintro e w1 ⟨rfl, hb1⟩
          have B1 : Bl w w1 := bl_call (bl_alloc (bl_refl _) _) hb1
          have xF_1 : Bx w1 (w.heap.size) #[.int .i64 (n), .int .i64 (d)] := (Bx.new (b := w.heap.size) _ #[.int .i64 (n), .int .i64 (d)] 35 (by first | rfl | simp)).below hb1
          obtain ⟨cF_1, fF_1, zF_1⟩ := xF_1.out
          rw [HA.out]
          go_wp2_with fail
          refine (within_any _ _ _ _).mono ?_
          rintro _ _ ⟨rfl, rfl⟩
          rw [HI.out]
          go_wp2_with fail
          refine (around_eq HOK.out m hm.1 HSD.out _).mono ?_
          rintro e w2 ⟨rfl, hb2⟩
          have B2 : Bl w w2 := bl_call B1 hb2
          have xF_2 : Bx w2 (w.heap.size) #[.int .i64 (n), .int .i64 (d)] := xF_1.below hb2
          clear cF_1 fF_1 zF_1
          obtain ⟨cF_2, fF_2, zF_2⟩ := xF_2.out
          go_wp2_with fail
          refine (icmpErr_any n d a b p q _ HS.out.1).mono ?_
          rintro e w3 ⟨rfl, hb3⟩
          have B3 : Bl w w3 := bl_call (bl_alloc (bl_alloc B2 _) _) hb3
          have xF_3 : Bx w3 (w.heap.size) #[.int .i64 (n), .int .i64 (d)] := ((xF_2.alloc _).alloc _).below hb3
          have xL_3 : Bx w3 (w2.heap.size) #[.int .i64 (a), .int .i64 (b)] := ((Bx.new (b := w2.heap.size) _ #[.int .i64 (a), .int .i64 (b)] 35 (by first | rfl | simp)).alloc _).below hb3
          have xH_3 : Bx w3 (w2.heap.size + 1) #[.int .i64 (p), .int .i64 (q)] := (Bx.new (b := w2.heap.size + 1) _ #[.int .i64 (p), .int .i64 (q)] 35 (by first | rfl | simp)).below hb3
          clear cF_2 fF_2 zF_2
          obtain ⟨cF_3, fF_3, zF_3⟩ := xF_3.out
          obtain ⟨cL_3, fL_3, zL_3⟩ := xL_3.out
          obtain ⟨cH_3, fH_3, zH_3⟩ := xH_3.out
          go_wp2
          go_ret2
          exact ⟨ret_ii2 HR.out, B3⟩
        ·
          have HA := Lib.hid (show askC n d m 10000 = 0 by simp [askC, e1, e2])
          have HC : nearC n d m = 2 := by simp [nearC, e1, e2, e3, h4]
          have HR := Lib.hid (nearerF_bad HC (by decide))
          clear HC
          have HI := Lib.hid e3
          clear e3
          have g4 : decide (1000000 < d) = true := by simp; omega
          clear e1 e2
          go_enter Try.func48, Try.ntmps48
          go_wp2_with fail
          refine (between_any n d m 10000 _).mono ?_
          rintro e w1 ⟨rfl, hb1⟩
          have B1 : Bl w w1 := bl_call (bl_alloc (bl_refl _) _) hb1
          have xF_1 : Bx w1 (w.heap.size) #[.int .i64 (n), .int .i64 (d)] := (Bx.new (b := w.heap.size) _ #[.int .i64 (n), .int .i64 (d)] 35 (by first | rfl | simp)).below hb1
          obtain ⟨cF_1, fF_1, zF_1⟩ := xF_1.out
          rw [HA.out]
          go_wp2_with fail
          refine (within_any _ _ _ _).mono ?_
          rintro _ _ ⟨rfl, rfl⟩
          rw [HI.out]
          go_wp2
          go_ret2
          exact ⟨ret_ii2 HR.out, B1⟩

set_option maxRecDepth 100000 in
set_option maxHeartbeats 1600000 in
theorem spec_NearerSide (n d m : Int) (w : World) :
    Calls Try.prog 47 #[.agg #[.int .i64 n, .int .i64 d], .int .i64 m] w fun r w' => r = .returned (.tuple #[.int .i64 (nearerF n d m).1, .int .i64 (nearerF n d m).2]) ∧ Bl w w' := by
  cases e1 : okF n d with
  | false =>
    have HA := Lib.hid (show askC n d m 1000000000 = 1 by simp [askC, e1])
    have HC : nearC n d m = 1 := by simp [nearC, e1]
    have HR := Lib.hid (nearerF_bad HC (by decide))
    clear HC
    clear e1
    go_enter Try.func47, Try.ntmps47
    go_wp2_with fail
    refine (asked_any n d m _).mono ?_
    rintro e w1 ⟨rfl, hb1⟩
    have B1 : Bl w w1 := bl_call (bl_alloc (bl_refl _) _) hb1
    have xF_1 : Bx w1 (w.heap.size) #[.int .i64 (n), .int .i64 (d)] := (Bx.new (b := w.heap.size) _ #[.int .i64 (n), .int .i64 (d)] 35 (by first | rfl | simp)).below hb1
    obtain ⟨cF_1, fF_1, zF_1⟩ := xF_1.out
    rw [HA.out]
    go_wp2
    go_ret2
    exact ⟨ret_ii2 HR.out, B1⟩
  | true =>
    cases e2 : inB m 1 1000000000 with
    | false =>
      have HA := Lib.hid (show askC n d m 1000000000 = 2 by simp [askC, e1, e2])
      have e3 : inB m 1 10000 = false := by cases h : inB m 1 10000 with
        | false => rfl
        | true => have q := inB_iff.2 (show 1 ≤ m ∧ m ≤ 1000000000 by have := inB_iff.1 h; omega); rw [e2] at q; cases q
      have HC : nearC n d m = 2 := by simp [nearC, e1, e3]
      have HR := Lib.hid (nearerF_bad HC (by decide))
      clear HC
      clear e1 e2 e3
      go_enter Try.func47, Try.ntmps47
      go_wp2_with fail
      refine (asked_any n d m _).mono ?_
      rintro e w1 ⟨rfl, hb1⟩
      have B1 : Bl w w1 := bl_call (bl_alloc (bl_refl _) _) hb1
      have xF_1 : Bx w1 (w.heap.size) #[.int .i64 (n), .int .i64 (d)] := (Bx.new (b := w.heap.size) _ #[.int .i64 (n), .int .i64 (d)] 35 (by first | rfl | simp)).below hb1
      obtain ⟨cF_1, fF_1, zF_1⟩ := xF_1.out
      rw [HA.out]
      go_wp2
      go_ret2
      exact ⟨ret_ii2 HR.out, B1⟩
    | true =>
      by_cases h3 : 10000 < m
      ·
        have HA := Lib.hid (show askC n d m 1000000000 = 0 by simp [askC, e1, e2])
        have e3 : inB m 1 10000 = false := inB_no (by omega)
        have HC : nearC n d m = 2 := by simp [nearC, e1, e3]
        have HR := Lib.hid (nearerF_bad HC (by decide))
        clear HC
        have g3 : decide (10000 < m) = true := by simp; omega
        clear e1 e2 e3
        go_enter Try.func47, Try.ntmps47
        go_wp2_with fail
        refine (asked_any n d m _).mono ?_
        rintro e w1 ⟨rfl, hb1⟩
        have B1 : Bl w w1 := bl_call (bl_alloc (bl_refl _) _) hb1
        have xF_1 : Bx w1 (w.heap.size) #[.int .i64 (n), .int .i64 (d)] := (Bx.new (b := w.heap.size) _ #[.int .i64 (n), .int .i64 (d)] 35 (by first | rfl | simp)).below hb1
        obtain ⟨cF_1, fF_1, zF_1⟩ := xF_1.out
        rw [HA.out]
        go_wp2
        go_ret2
        exact ⟨ret_ii2 HR.out, B1⟩
      · by_cases h4 : 1000000 < ab n
        ·
          have HA := Lib.hid (show askC n d m 1000000000 = 0 by simp [askC, e1, e2])
          have e3 : inB m 1 10000 = true := inB_iff.2 (by have := inB_iff.1 e2; omega)
          have e4 : inB n (-1000000) 1000000 = false := inB_no (by unfold ab at h4; omega)
          have HC : nearC n d m = 2 := by simp [nearC, e1, e3, e4]
          have HR := Lib.hid (nearerF_bad HC (by decide))
          clear HC
          have hok := okF_bd e1
          have g3 : decide (10000 < m) = false := by simp; omega
          have g4 : decide (1000000 < ab n) = true := by simp; omega
          have hok1 : -1000000000 ≤ n := hok.2.2.1
          clear hok
          clear e1 e2 e3 e4
          go_enter Try.func47, Try.ntmps47
          go_wp2_with fail
          refine (asked_any n d m _).mono ?_
          rintro e w1 ⟨rfl, hb1⟩
          have B1 : Bl w w1 := bl_call (bl_alloc (bl_refl _) _) hb1
          have xF_1 : Bx w1 (w.heap.size) #[.int .i64 (n), .int .i64 (d)] := (Bx.new (b := w.heap.size) _ #[.int .i64 (n), .int .i64 (d)] 35 (by first | rfl | simp)).below hb1
          obtain ⟨cF_1, fF_1, zF_1⟩ := xF_1.out
          rw [HA.out]
          go_wp2_with fail
          refine (size_any _ _ (by omega)).mono ?_
          rintro _ _ ⟨rfl, rfl⟩
          go_wp2
          go_ret2
          exact ⟨ret_ii2 HR.out, B1⟩
        · by_cases h5 : d ≤ 1000000
          ·
            have HA := Lib.hid (show askC n d m 1000000000 = 0 by simp [askC, e1, e2])
            have e3 : inB m 1 10000 = true := inB_iff.2 (by have := inB_iff.1 e2; omega)
            have hn : -1000000 ≤ n ∧ n ≤ 1000000 := by unfold ab at h4; omega
            have e4 : inB n (-1000000) 1000000 = true := inB_iff.2 hn
            have HC : nearC n d m = 0 := by simp [nearC, e1, e3, e4, h5]
            obtain ⟨⟨⟨a, b⟩, ⟨p, q⟩⟩, hs⟩ : ∃ x, x = sidesF n d m := ⟨_, rfl⟩
            have HSD := Lib.hid hs.symm
            have HR := Lib.hid (nearerF_ok HC hs.symm)
            clear HC hs
            have HOK := Lib.hid e1
            have hm := inB_iff.1 e2
            have HS := Lib.hid (sides_small e1 hm.1 hn h5 HSD.out)
            obtain ⟨w1, w2, w3, w4⟩ := HS.out.1.prods
            obtain ⟨o1, o2, o3, o4⟩ := HS.out.1.outs
            rw [HS.out.2.1] at o1 o2
            rw [HS.out.2.2] at o3 o4
            have HX := Lib.hid (show cmpErrF n d a b p q = cmpF ((n * b - a * d) * q) ((p * d - n * q) * b) by rw [cmpErrF, HS.out.2.1, HS.out.2.2])
            have hok := okF_bd e1
            have g3 : decide (10000 < m) = false := by simp; omega
            have g4 : decide (1000000 < ab n) = false := by simp; omega
            have hok1 : -1000000000 ≤ n := hok.2.2.1
            clear hok
            clear e1 e2 e3 e4
            rcases Int.lt_trichotomy ((n * b - a * d) * q) ((p * d - n * q) * b) with hv | hv | hv
            ·
              have HV := Lib.hid (show cmpF ((n * b - a * d) * q) ((p * d - n * q) * b) = -1 by rw [cmpF, if_pos hv])
              go_enter Try.func47, Try.ntmps47
              go_wp2_with fail
              refine (asked_any n d m _).mono ?_
              rintro e w1 ⟨rfl, hb1⟩
              have B1 : Bl w w1 := bl_call (bl_alloc (bl_refl _) _) hb1
              have xF_1 : Bx w1 (w.heap.size) #[.int .i64 (n), .int .i64 (d)] := (Bx.new (b := w.heap.size) _ #[.int .i64 (n), .int .i64 (d)] 35 (by first | rfl | simp)).below hb1
              obtain ⟨cF_1, fF_1, zF_1⟩ := xF_1.out
              rw [HA.out]
              go_wp2_with fail
              refine (size_any _ _ (by omega)).mono ?_
              rintro _ _ ⟨rfl, rfl⟩
              go_wp2_with fail
              refine (side_lo HOK.out m hm.1 HSD.out _).mono ?_
              rintro e w2 ⟨rfl, hb2⟩
              have B2 : Bl w w2 := bl_call B1 hb2
              have xF_2 : Bx w2 (w.heap.size) #[.int .i64 (n), .int .i64 (d)] := xF_1.below hb2
              clear cF_1 fF_1 zF_1
              obtain ⟨cF_2, fF_2, zF_2⟩ := xF_2.out
              go_wp2_with fail
              refine (side_hi HOK.out m hm.1 HSD.out _).mono ?_
              rintro e w3 ⟨rfl, hb3⟩
              have B3 : Bl w w3 := bl_call (bl_alloc B2 _) hb3
              have xF_3 : Bx w3 (w.heap.size) #[.int .i64 (n), .int .i64 (d)] := (xF_2.alloc _).below hb3
              have xL_3 : Bx w3 (w2.heap.size) #[.int .i64 (a), .int .i64 (b)] := (Bx.new (b := w2.heap.size) _ #[.int .i64 (a), .int .i64 (b)] 35 (by first | rfl | simp)).below hb3
              clear cF_2 fF_2 zF_2
              obtain ⟨cF_3, fF_3, zF_3⟩ := xF_3.out
              obtain ⟨cL_3, fL_3, zL_3⟩ := xL_3.out
              go_wp2
              go_ret2
              exact ⟨ret_ii2 (by rw [HR.out, HX.out, HV.out]), (bl_alloc B3 _)⟩
            ·
              have HV := Lib.hid (show cmpF ((n * b - a * d) * q) ((p * d - n * q) * b) = 0 by rw [cmpF, if_neg (by omega), if_neg (by omega)])
              have hv1 := Int.le_of_eq hv
              have hv2 := Int.le_of_eq hv.symm
              clear hv
              go_enter Try.func47, Try.ntmps47
              go_wp2_with fail
              refine (asked_any n d m _).mono ?_
              rintro e w1 ⟨rfl, hb1⟩
              have B1 : Bl w w1 := bl_call (bl_alloc (bl_refl _) _) hb1
              have xF_1 : Bx w1 (w.heap.size) #[.int .i64 (n), .int .i64 (d)] := (Bx.new (b := w.heap.size) _ #[.int .i64 (n), .int .i64 (d)] 35 (by first | rfl | simp)).below hb1
              obtain ⟨cF_1, fF_1, zF_1⟩ := xF_1.out
              rw [HA.out]
              go_wp2_with fail
              refine (size_any _ _ (by omega)).mono ?_
              rintro _ _ ⟨rfl, rfl⟩
              go_wp2_with fail
              refine (side_lo HOK.out m hm.1 HSD.out _).mono ?_
              rintro e w2 ⟨rfl, hb2⟩
              have B2 : Bl w w2 := bl_call B1 hb2
              have xF_2 : Bx w2 (w.heap.size) #[.int .i64 (n), .int .i64 (d)] := xF_1.below hb2
              clear cF_1 fF_1 zF_1
              obtain ⟨cF_2, fF_2, zF_2⟩ := xF_2.out
              go_wp2_with fail
              refine (side_hi HOK.out m hm.1 HSD.out _).mono ?_
              rintro e w3 ⟨rfl, hb3⟩
              have B3 : Bl w w3 := bl_call (bl_alloc B2 _) hb3
              have xF_3 : Bx w3 (w.heap.size) #[.int .i64 (n), .int .i64 (d)] := (xF_2.alloc _).below hb3
              have xL_3 : Bx w3 (w2.heap.size) #[.int .i64 (a), .int .i64 (b)] := (Bx.new (b := w2.heap.size) _ #[.int .i64 (a), .int .i64 (b)] 35 (by first | rfl | simp)).below hb3
              clear cF_2 fF_2 zF_2
              obtain ⟨cF_3, fF_3, zF_3⟩ := xF_3.out
              obtain ⟨cL_3, fL_3, zL_3⟩ := xL_3.out
              go_wp2
              go_ret2
              exact ⟨ret_ii2 (by rw [HR.out, HX.out, HV.out]), (bl_alloc B3 _)⟩
            ·
              have HV := Lib.hid (show cmpF ((n * b - a * d) * q) ((p * d - n * q) * b) = 1 by rw [cmpF, if_neg (by omega), if_pos hv])
              go_enter Try.func47, Try.ntmps47
              go_wp2_with fail
              refine (asked_any n d m _).mono ?_
              rintro e w1 ⟨rfl, hb1⟩
              have B1 : Bl w w1 := bl_call (bl_alloc (bl_refl _) _) hb1
              have xF_1 : Bx w1 (w.heap.size) #[.int .i64 (n), .int .i64 (d)] := (Bx.new (b := w.heap.size) _ #[.int .i64 (n), .int .i64 (d)] 35 (by first | rfl | simp)).below hb1
              obtain ⟨cF_1, fF_1, zF_1⟩ := xF_1.out
              rw [HA.out]
              go_wp2_with fail
              refine (size_any _ _ (by omega)).mono ?_
              rintro _ _ ⟨rfl, rfl⟩
              go_wp2_with fail
              refine (side_lo HOK.out m hm.1 HSD.out _).mono ?_
              rintro e w2 ⟨rfl, hb2⟩
              have B2 : Bl w w2 := bl_call B1 hb2
              have xF_2 : Bx w2 (w.heap.size) #[.int .i64 (n), .int .i64 (d)] := xF_1.below hb2
              clear cF_1 fF_1 zF_1
              obtain ⟨cF_2, fF_2, zF_2⟩ := xF_2.out
              go_wp2_with fail
              refine (side_hi HOK.out m hm.1 HSD.out _).mono ?_
              rintro e w3 ⟨rfl, hb3⟩
              have B3 : Bl w w3 := bl_call (bl_alloc B2 _) hb3
              have xF_3 : Bx w3 (w.heap.size) #[.int .i64 (n), .int .i64 (d)] := (xF_2.alloc _).below hb3
              have xL_3 : Bx w3 (w2.heap.size) #[.int .i64 (a), .int .i64 (b)] := (Bx.new (b := w2.heap.size) _ #[.int .i64 (a), .int .i64 (b)] 35 (by first | rfl | simp)).below hb3
              clear cF_2 fF_2 zF_2
              obtain ⟨cF_3, fF_3, zF_3⟩ := xF_3.out
              obtain ⟨cL_3, fL_3, zL_3⟩ := xL_3.out
              go_wp2
              go_ret2
              exact ⟨ret_ii2 (by rw [HR.out, HX.out, HV.out]), (bl_alloc B3 _)⟩
          ·
            have HA := Lib.hid (show askC n d m 1000000000 = 0 by simp [askC, e1, e2])
            have e3 : inB m 1 10000 = true := inB_iff.2 (by have := inB_iff.1 e2; omega)
            have hn : -1000000 ≤ n ∧ n ≤ 1000000 := by unfold ab at h4; omega
            have e4 : inB n (-1000000) 1000000 = true := inB_iff.2 hn
            have HC : nearC n d m = 2 := by simp [nearC, e1, e3, e4, h5]
            have HR := Lib.hid (nearerF_bad HC (by decide))
            clear HC
            have hok := okF_bd e1
            have g3 : decide (10000 < m) = false := by simp; omega
            have g4 : decide (1000000 < ab n) = false := by simp; omega
            have g5 : decide (1000000 < d) = true := by simp; omega
            have hok1 : -1000000000 ≤ n := hok.2.2.1
            clear hok
            clear e1 e2 e3 e4
            go_enter Try.func47, Try.ntmps47
            go_wp2_with fail
            refine (asked_any n d m _).mono ?_
            rintro e w1 ⟨rfl, hb1⟩
            have B1 : Bl w w1 := bl_call (bl_alloc (bl_refl _) _) hb1
            have xF_1 : Bx w1 (w.heap.size) #[.int .i64 (n), .int .i64 (d)] := (Bx.new (b := w.heap.size) _ #[.int .i64 (n), .int .i64 (d)] 35 (by first | rfl | simp)).below hb1
            obtain ⟨cF_1, fF_1, zF_1⟩ := xF_1.out
            rw [HA.out]
            go_wp2_with fail
            refine (size_any _ _ (by omega)).mono ?_
            rintro _ _ ⟨rfl, rfl⟩
            go_wp2
            go_ret2
            exact ⟨ret_ii2 HR.out, B1⟩

end Go.Proofs.Ytggpldbihndgmaa
