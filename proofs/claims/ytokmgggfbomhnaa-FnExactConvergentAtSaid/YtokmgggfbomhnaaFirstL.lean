/- FirstTerms: the program and the reference give the same. No condition. -/
import Derived.Test.YtokmgggfbomhnaaFirstT
namespace Go.Proofs.Ytokmgggfbomhnaa
open Go.RowKit
set_option linter.unusedVariables false
set_option linter.unusedSimpArgs false

theorem ivalid_eq {h p g : Value} {s : Src} {b : Bool} (e : okS s = b) (w : World) (ha : SlS w h p g s) : Calls Try.prog 58 #[.agg #[h, p, g]] w fun e w' => e = .returned (.bool b) ∧ Bl w w' := e ▸ ivalid_any h p g s w ha
theorem svalid_eq {h p g : Value} {s : Src} {b : Bool} (e : okS s = b) (w : World) (x : Nat) (ha : SlS w h p g s) (hx : Bx w x #[h, p, g]) : Calls Try.prog 54 #[.pointer (some ⟨x, 0, none⟩)] w fun e w' => e = .returned (.bool b) ∧ Bl w w' := e ▸ svalid_any h p g s w x ha hx
theorem within_eq {n lo hi : Int} {b : Bool} (h : inB n lo hi = b) (w : World) : Calls Try.prog 59 #[.int .i64 n, .int .i64 lo, .int .i64 hi] w fun e w' => e = .returned (.bool b) ∧ w = w' := h ▸ within_any n lo hi w
theorem in_eq {n lo hi : Int} {b : Bool} (h : inB n lo hi = b) (w : World) : Calls Try.prog 55 #[.int .i64 n, .int .i64 lo, .int .i64 hi] w fun e w' => e = .returned (.bool b) ∧ w = w' := h ▸ in_any n lo hi w
theorem ret_li {v : Value} {xs : List Int} {r : List Int × Int} {c : Int} (h : r = (xs, c)) : Ending.returned (.tuple #[v, .int .i64 c]) = .returned (.tuple #[v, .int .i64 r.2]) := by rw [h]
noncomputable def firstF (s : Src) (m : Int) : List Int × Int := if okS s then (if inB m 0 1000 then (firstL s m.toNat, 0) else ([], 2)) else ([], 1)
theorem firstF_len (s : Src) (m : Int) : (firstF s m).1.length ≤ 1048576 := by
  unfold firstF
  split
  · split
    · rename_i h
      have := inB_iff.1 h
      have := firstG_len s m.toNat 0
      simp [firstL]
      omega
    · simp
  · simp

set_option maxRecDepth 100000 in
set_option maxHeartbeats 3200000 in
theorem impl_FirstTerms (h p g : Value) (s : Src) (m : Int) (w : World) (hs : SlS w h p g s) :
    Calls Try.prog 18 #[.agg #[h, p, g], .int .i64 m] w fun e w' => ∃ a n c, e = .returned (.tuple #[.slice a n c, .int .i64 (firstF s m).2]) ∧ Own w' w.heap.size (.slice a n c) (firstF s m).1 ∧ Bl w w' := by
  cases e1 : okS s with
  | false =>
    have HR := (show firstF s m = ([], 1) by simp [firstF, e1])
    have HR := Lib.hid HR
    have E1 := Lib.hid e1
    clear e1
    go_enter Try.func18, Try.ntmps18
    go_wp2_with fail
    refine (ivalid_eq E1.out _ (hs.below (bl_alloc (bl_refl _) _))).mono ?_
    rintro e w1 ⟨rfl, hb1⟩
    have B1 : Bl w w1 := bl_call (bl_alloc (bl_refl _) _) hb1
    have xF_1 : Bx w1 (w.heap.size) #[h, p, g] := (Bx.new (b := w.heap.size) _ #[h, p, g] 28 (by first | rfl | simp)).below hb1
    obtain ⟨cF_1, fF_1, zF_1⟩ := xF_1.out
    go_wp2
    go_ret2
    exact ⟨_, _, _, ret_li HR.out, by rw [HR.out]; exact Own.nil _ _, B1⟩
  | true =>
    cases e2 : inB m 0 1000 with
    | false =>
      have HR := (show firstF s m = ([], 2) by simp [firstF, e1, e2])
      have HR := Lib.hid HR
      have E1 := Lib.hid e1
      clear e1
      have E2 := Lib.hid e2
      clear e2
      go_enter Try.func18, Try.ntmps18
      go_wp2_with fail
      refine (ivalid_eq E1.out _ (hs.below (bl_alloc (bl_refl _) _))).mono ?_
      rintro e w1 ⟨rfl, hb1⟩
      have B1 : Bl w w1 := bl_call (bl_alloc (bl_refl _) _) hb1
      have xF_1 : Bx w1 (w.heap.size) #[h, p, g] := (Bx.new (b := w.heap.size) _ #[h, p, g] 28 (by first | rfl | simp)).below hb1
      obtain ⟨cF_1, fF_1, zF_1⟩ := xF_1.out
      go_wp2_with fail
      refine (within_eq E2.out _).mono ?_
      rintro e w9 ⟨rfl, rfl⟩
      go_wp2
      go_ret2
      exact ⟨_, _, _, ret_li HR.out, by rw [HR.out]; exact Own.nil _ _, B1⟩
    | true =>
      have HR := (show firstF s m = (firstL s m.toNat, 0) by simp [firstF, e1, e2])
      have hm := inB_iff.1 e2
      obtain ⟨M, rfl⟩ := Int.eq_ofNat_of_zero_le (show 0 ≤ m by omega)
      rw [Int.toNat_natCast] at HR
      have K1 := okS_iff.1 e1
      have HR := Lib.hid HR
      have E1 := Lib.hid e1
      clear e1
      have E2 := Lib.hid e2
      clear e2
      go_enter Try.func18, Try.ntmps18
      go_wp2_with fail
      refine (ivalid_eq E1.out _ (hs.below (bl_alloc (bl_refl _) _))).mono ?_
      rintro e w1 ⟨rfl, hb1⟩
      have B1 : Bl w w1 := bl_call (bl_alloc (bl_refl _) _) hb1
      have xF_1 : Bx w1 (w.heap.size) #[h, p, g] := (Bx.new (b := w.heap.size) _ #[h, p, g] 28 (by first | rfl | simp)).below hb1
      obtain ⟨cF_1, fF_1, zF_1⟩ := xF_1.out
      go_wp2_with fail
      refine (within_eq E2.out _).mono ?_
      rintro e w9 ⟨rfl, rfl⟩
      go_wp2_with fail
      refine (firstI_any h p g s M _ (hs.below B1) K1 (by omega)).mono ?_
      rintro e w2 ⟨ya, yc, rfl, HY, hb2⟩
      have B2 : Bl w w2 := bl_call B1 hb2
      have xF_2 : Bx w2 (w.heap.size) #[h, p, g] := xF_1.below hb2
      clear cF_1 fF_1 zF_1
      obtain ⟨cF_2, fF_2, zF_2⟩ := xF_2.out
      have HY := Lib.hid HY
      go_wp2
      go_ret2
      exact ⟨_, _, _, ret_li HR.out, by rw [HR.out]; exact HY.out.mono B1.size, B2⟩

set_option maxRecDepth 100000 in
set_option maxHeartbeats 3200000 in
theorem spec_FirstTerms (h p g : Value) (s : Src) (m : Int) (w : World) (hs : SlS w h p g s) :
    Calls Try.prog 16 #[.agg #[h, p, g], .int .i64 m] w fun e w' => ∃ a n c, e = .returned (.tuple #[.slice a n c, .int .i64 (firstF s m).2]) ∧ Own w' w.heap.size (.slice a n c) (firstF s m).1 ∧ Bl w w' := by
  cases e1 : okS s with
  | false =>
    have HR := (show firstF s m = ([], 1) by simp [firstF, e1])
    have HR := Lib.hid HR
    have E1 := Lib.hid e1
    clear e1
    go_enter Try.func16, Try.ntmps16
    go_wp2_with fail
    refine (svalid_eq E1.out _ (w.heap.size) (hs.below (bl_alloc (bl_refl _) _)) (Bx.new (b := w.heap.size) _ #[h, p, g] 28 (by first | rfl | simp))).mono ?_
    rintro e w1 ⟨rfl, hb1⟩
    have B1 : Bl w w1 := bl_call (bl_alloc (bl_refl _) _) hb1
    have xF_1 : Bx w1 (w.heap.size) #[h, p, g] := (Bx.new (b := w.heap.size) _ #[h, p, g] 28 (by first | rfl | simp)).below hb1
    obtain ⟨cF_1, fF_1, zF_1⟩ := xF_1.out
    go_wp2
    go_ret2
    exact ⟨_, _, _, ret_li HR.out, by rw [HR.out]; exact Own.nil _ _, B1⟩
  | true =>
    cases e2 : inB m 0 1000 with
    | false =>
      have HR := (show firstF s m = ([], 2) by simp [firstF, e1, e2])
      have HR := Lib.hid HR
      have E1 := Lib.hid e1
      clear e1
      have E2 := Lib.hid e2
      clear e2
      go_enter Try.func16, Try.ntmps16
      go_wp2_with fail
      refine (svalid_eq E1.out _ (w.heap.size) (hs.below (bl_alloc (bl_refl _) _)) (Bx.new (b := w.heap.size) _ #[h, p, g] 28 (by first | rfl | simp))).mono ?_
      rintro e w1 ⟨rfl, hb1⟩
      have B1 : Bl w w1 := bl_call (bl_alloc (bl_refl _) _) hb1
      have xF_1 : Bx w1 (w.heap.size) #[h, p, g] := (Bx.new (b := w.heap.size) _ #[h, p, g] 28 (by first | rfl | simp)).below hb1
      obtain ⟨cF_1, fF_1, zF_1⟩ := xF_1.out
      go_wp2_with fail
      refine (in_eq E2.out _).mono ?_
      rintro e w9 ⟨rfl, rfl⟩
      go_wp2
      go_ret2
      exact ⟨_, _, _, ret_li HR.out, by rw [HR.out]; exact Own.nil _ _, B1⟩
    | true =>
      have HR := (show firstF s m = (firstL s m.toNat, 0) by simp [firstF, e1, e2])
      have hm := inB_iff.1 e2
      obtain ⟨M, rfl⟩ := Int.eq_ofNat_of_zero_le (show 0 ≤ m by omega)
      rw [Int.toNat_natCast] at HR
      have K1 := okS_iff.1 e1
      have HR := Lib.hid HR
      have E1 := Lib.hid e1
      clear e1
      have E2 := Lib.hid e2
      clear e2
      go_enter Try.func16, Try.ntmps16
      go_wp2_with fail
      refine (svalid_eq E1.out _ (w.heap.size) (hs.below (bl_alloc (bl_refl _) _)) (Bx.new (b := w.heap.size) _ #[h, p, g] 28 (by first | rfl | simp))).mono ?_
      rintro e w1 ⟨rfl, hb1⟩
      have B1 : Bl w w1 := bl_call (bl_alloc (bl_refl _) _) hb1
      have xF_1 : Bx w1 (w.heap.size) #[h, p, g] := (Bx.new (b := w.heap.size) _ #[h, p, g] 28 (by first | rfl | simp)).below hb1
      obtain ⟨cF_1, fF_1, zF_1⟩ := xF_1.out
      go_wp2_with fail
      refine (in_eq E2.out _).mono ?_
      rintro e w9 ⟨rfl, rfl⟩
      go_wp2_with fail
      refine (firstS_any h p g s M _ (w.heap.size) (hs.below B1) xF_1 K1 (by omega)).mono ?_
      rintro e w2 ⟨ya, yc, rfl, HY, hb2⟩
      have B2 : Bl w w2 := bl_call B1 hb2
      have xF_2 : Bx w2 (w.heap.size) #[h, p, g] := xF_1.below hb2
      clear cF_1 fF_1 zF_1
      obtain ⟨cF_2, fF_2, zF_2⟩ := xF_2.out
      have HY := Lib.hid HY
      go_wp2
      go_ret2
      exact ⟨_, _, _, ret_li HR.out, by rw [HR.out]; exact HY.out.mono B1.size, B2⟩

end Go.Proofs.Ytokmgggfbomhnaa
