/- SourceOfFraction: the program and the reference give the same. No condition. -/
import Derived.Test.YtndblondleclpaaGreatDoorTermsW
import Derived.Test.YtndblondleclpaaGreatDoorOk
import Derived.Test.YtndblondleclpaaGreatDoorSrcI
namespace Go.Proofs.YtndblondleclpaaGreatDoor
open Go.RowKit
set_option linter.unusedVariables false
set_option linter.unusedSimpArgs false

noncomputable def srcFrF (n d : Int) : Src × Int := if okF n d then (if (termsF n d).length ≤ 30 then (⟨termsF n d, [], []⟩, 0) else (⟨[], [], []⟩, 5)) else (⟨[], [], []⟩, 1)
theorem srcFr_len (n d : Int) : (srcFrF n d).1.H.length ≤ 1048576 ∧ (srcFrF n d).1.P.length ≤ 1048576 ∧ (srcFrF n d).1.G.length ≤ 1048576 := by
  unfold srcFrF
  split
  · split
    · simp; omega
    · simp
  · simp
theorem ret_si {r : Src × Int} {v : Value} {c : Int} (h : c = r.2) : Ending.returned (.tuple #[v, .int .i64 c]) = .returned (.tuple #[v, .int .i64 r.2]) := by rw [h]
theorem terms_okS {n d : Int} (h : okF n d = true) (hl : (termsF n d).length ≤ 30) : okSrc ⟨termsF n d, [], []⟩ = true := by
  obtain ⟨⟨k1, k2⟩, ⟨k3, k4⟩, _⟩ := okF_iff.1 h
  refine okSrc_iff.2 ⟨hl, by simp, by have := termsF_pos (n := n) (d := d) (by omega); simp; omega, rfl, fun i x hx => ?_, by simp, by simp⟩
  have := termsF_bd (d.toNat + 1) n d (by omega) (by omega) k2 ⟨k3, k4⟩ i x hx
  unfold lowAt
  by_cases h0 : i = 0
  · rw [if_pos h0]; split at this <;> omega
  · rw [if_neg h0]; rw [if_pos (by omega)] at this; exact this
theorem terms_noS {n d : Int} (hl : ¬ (termsF n d).length ≤ 30) : okSrc ⟨termsF n d, [], []⟩ = false := by
  cases e : okSrc ⟨termsF n d, [], []⟩
  · rfl
  · exact absurd (okSrc_iff.1 e).h30 hl
theorem ownS_nil (w : World) (B : Nat) : OwnS w B (.slice none 0 0) (.slice none 0 0) (.slice none 0 0) ⟨[], [], []⟩ :=
  ⟨Own.nil _ _, Own.nil _ _, Own.nil _ _, fun k h => by simp [Value.ownBlock] at h, fun k h => by simp [Value.ownBlock] at h, fun k h => by simp [Value.ownBlock] at h⟩
theorem own_made' (X : World) {B k : Nat} (hk : k = X.heap.size) (hB : B ≤ X.heap.size) : Own (X.alloc (.cells #[] 2)) B (.slice (some ⟨k, 0, none⟩) 0 0) [] := by subst hk; exact own_made X hB
theorem ivalid_eqR {h p g : Value} {s : Src} {b : Bool} (e : okSrc s = b) (w : World) (ha : SlS w h p g s) : Calls Tryz.prog 25 #[.agg #[h, p, g]] w fun e w' => e = .returned (.bool b) ∧ Bl w w' := e ▸ ivalid_any h p g s w ha
theorem validF_eqR {n d : Int} {b : Bool} (h : okF n d = b) (w : World) : Calls Tryz.prog 78 #[.agg #[.int .i64 n, .int .i64 d]] w fun e w' => e = .returned (.bool b) ∧ Bl w w' := h ▸ validF_any n d w
theorem ok_eqR {n d : Int} {b : Bool} (h : okF n d = b) (w : World) : Calls Tryz.prog 82 #[.agg #[.int .i64 n, .int .i64 d]] w fun e w' => e = .returned (.bool b) ∧ Bl w w' := h ▸ ok_any n d w

set_option maxRecDepth 100000 in
set_option maxHeartbeats 3200000 in
theorem spec_SourceOfFraction (n d : Int) (w : World) :
    Calls Tryz.prog 117 #[.agg #[.int .i64 n, .int .i64 d]] w fun e w' => ∃ h p g, e = .returned (.tuple #[.agg #[h, p, g], .int .i64 (srcFrF n d).2]) ∧ OwnS w' w.heap.size h p g (srcFrF n d).1 ∧ Bl w w' := by
  cases e1 : okF n d with
  | false =>
    have HR := Lib.hid (show srcFrF n d = (⟨[], [], []⟩, 1) by simp [srcFrF, e1])
    have E1 := Lib.hid e1
    clear e1
    go_enter Tryz.func117, Tryz.ntmps117
    go_wp2_with fail
    refine (ok_eqR E1.out _).mono ?_
    rintro e w1 ⟨rfl, hb1⟩
    have B1 : Bl w w1 := bl_call (bl_alloc (bl_alloc (bl_refl _) _) _) hb1
    have xF_1 : Bx w1 (w.heap.size) #[.int .i64 n, .int .i64 d] := ((Bx.new (b := w.heap.size) _ #[.int .i64 n, .int .i64 d] 45 (by first | rfl | simp)).alloc _).below hb1
    have xR_1 : Bx w1 (w.heap.size + 1) #[.slice none 0 0, .slice none 0 0, .slice none 0 0] := (Bx.new (b := w.heap.size + 1) _ #[.slice none 0 0, .slice none 0 0, .slice none 0 0] 26 (by first | rfl | simp)).below hb1
    obtain ⟨cF_1, fF_1, zF_1⟩ := xF_1.out
    obtain ⟨cR_1, fR_1, zR_1⟩ := xR_1.out
    go_wp2
    refine bodyPost_ret (v := .tuple #[.agg #[.slice none 0 0, .slice none 0 0, .slice none 0 0], .int .i64 1]) (by simp only [results, Tryz.results117]; go_simp) rfl ?_
    refine ⟨_, _, _, ret_si (by rw [HR.out]), by rw [HR.out]; exact ownS_nil _ _, ?_⟩
    repeat first | (with_reducible exact B1) | (with_reducible refine bl_alloc ?_ _) | (with_reducible refine bl_drew ?_) | (with_reducible refine bl_set ?_ (by first | exact Nat.le_refl _ | (simp; done) | (simp; omega)) _)
  | true =>
    by_cases e2 : (termsF n d).length ≤ 30
    ·
      have HR := Lib.hid (show srcFrF n d = (⟨termsF n d, [], []⟩, 0) by simp [srcFrF, e1, e2])
      obtain ⟨⟨k1, k2⟩, ⟨k3, k4⟩, _⟩ := okF_iff.1 e1
      have E2 := Lib.hid e2
      have hl := termsF_60 (n := n) (d := d) (by omega) k2
      have hg : decide (30 < (termsF n d).length) = false := by simp; omega
      have hg2 : decide ((30 : Int) < ((termsF n d).length : Int)) = false := by simp; omega
      clear e2
      have E1 := Lib.hid e1
      clear e1
      go_enter Tryz.func117, Tryz.ntmps117
      go_wp2_with fail
      refine (ok_eqR E1.out _).mono ?_
      rintro e w1 ⟨rfl, hb1⟩
      have B1 : Bl w w1 := bl_call (bl_alloc (bl_alloc (bl_refl _) _) _) hb1
      have xF_1 : Bx w1 (w.heap.size) #[.int .i64 n, .int .i64 d] := ((Bx.new (b := w.heap.size) _ #[.int .i64 n, .int .i64 d] 45 (by first | rfl | simp)).alloc _).below hb1
      have xR_1 : Bx w1 (w.heap.size + 1) #[.slice none 0 0, .slice none 0 0, .slice none 0 0] := (Bx.new (b := w.heap.size + 1) _ #[.slice none 0 0, .slice none 0 0, .slice none 0 0] 26 (by first | rfl | simp)).below hb1
      obtain ⟨cF_1, fF_1, zF_1⟩ := xF_1.out
      obtain ⟨cR_1, fR_1, zR_1⟩ := xR_1.out
      go_wp2_with fail
      refine (lterms_any n d _ (by omega) (by omega) (by omega)).mono ?_
      rintro e w2 ⟨ya, yc, rfl, HY, hb2⟩
      have B2 : Bl w w2 := bl_call B1 hb2
      have xF_2 : Bx w2 (w.heap.size) #[.int .i64 n, .int .i64 d] := xF_1.below hb2
      have xR_2 : Bx w2 (w.heap.size + 1) #[.slice none 0 0, .slice none 0 0, .slice none 0 0] := xR_1.below hb2
      clear cF_1 fF_1 zF_1 cR_1 fR_1 zR_1
      obtain ⟨cF_2, fF_2, zF_2⟩ := xF_2.out
      obtain ⟨cR_2, fR_2, zR_2⟩ := xR_2.out
      have HY := Lib.hid HY
      have zb1 := hb1.size
      (try simp at zb1)
      go_wp2
      refine bodyPost_ret (v := .tuple #[.agg #[.slice ya (termsF n d).length yc, .slice (some ⟨w2.heap.size, 0, none⟩) 0 0, .slice (some ⟨w2.heap.size + 1, 0, none⟩) 0 0], .int .i64 0]) (by simp only [results, Tryz.results117]; go_simp) rfl ?_
      refine ⟨_, _, _, ret_si (by rw [HR.out]), ?_, ?_⟩
      · rw [HR.out]
        refine ⟨?_, ?_, ?_, fun k h q => ?_, fun k h q => ?_, fun k h q => ?_⟩
        · refine Own.mono (B := w1.heap.size) ?_ B1.size
          repeat first | (with_reducible exact HY.out) | (with_reducible refine Own.setCell ?_ (by simp; omega) _) | (with_reducible refine Own.alloc ?_ _)
        · refine Own.mono (B := w2.heap.size) ?_ B2.size
          exact (own_made' _ (by simp) (by simp)).alloc _
        · refine Own.mono (B := w2.heap.size) ?_ B2.size
          exact own_made' _ (by simp) (by simp)
        · have h2 := (HY.out.lt k h).2
          simp [Value.ownBlock] at q
          omega
        · have h2 := (HY.out.lt k h).2
          simp [Value.ownBlock] at q
          omega
        · simp [Value.ownBlock] at h q
          omega
      · repeat first | (with_reducible exact B2) | (with_reducible refine bl_alloc ?_ _) | (with_reducible refine bl_drew ?_) | (with_reducible refine bl_set ?_ (by first | exact Nat.le_refl _ | (simp; done) | (simp; omega)) _)
    ·
      have HR := Lib.hid (show srcFrF n d = (⟨[], [], []⟩, 5) by simp [srcFrF, e1, e2])
      obtain ⟨⟨k1, k2⟩, ⟨k3, k4⟩, _⟩ := okF_iff.1 e1
      have E2 := Lib.hid e2
      have hl := termsF_60 (n := n) (d := d) (by omega) k2
      have hg : decide (30 < (termsF n d).length) = true := by simp; omega
      have hg2 : decide ((30 : Int) < ((termsF n d).length : Int)) = true := by simp; omega
      clear e2
      have E1 := Lib.hid e1
      clear e1
      go_enter Tryz.func117, Tryz.ntmps117
      go_wp2_with fail
      refine (ok_eqR E1.out _).mono ?_
      rintro e w1 ⟨rfl, hb1⟩
      have B1 : Bl w w1 := bl_call (bl_alloc (bl_alloc (bl_refl _) _) _) hb1
      have xF_1 : Bx w1 (w.heap.size) #[.int .i64 n, .int .i64 d] := ((Bx.new (b := w.heap.size) _ #[.int .i64 n, .int .i64 d] 45 (by first | rfl | simp)).alloc _).below hb1
      have xR_1 : Bx w1 (w.heap.size + 1) #[.slice none 0 0, .slice none 0 0, .slice none 0 0] := (Bx.new (b := w.heap.size + 1) _ #[.slice none 0 0, .slice none 0 0, .slice none 0 0] 26 (by first | rfl | simp)).below hb1
      obtain ⟨cF_1, fF_1, zF_1⟩ := xF_1.out
      obtain ⟨cR_1, fR_1, zR_1⟩ := xR_1.out
      go_wp2_with fail
      refine (lterms_any n d _ (by omega) (by omega) (by omega)).mono ?_
      rintro e w2 ⟨ya, yc, rfl, HY, hb2⟩
      have B2 : Bl w w2 := bl_call B1 hb2
      have xF_2 : Bx w2 (w.heap.size) #[.int .i64 n, .int .i64 d] := xF_1.below hb2
      have xR_2 : Bx w2 (w.heap.size + 1) #[.slice none 0 0, .slice none 0 0, .slice none 0 0] := xR_1.below hb2
      clear cF_1 fF_1 zF_1 cR_1 fR_1 zR_1
      obtain ⟨cF_2, fF_2, zF_2⟩ := xF_2.out
      obtain ⟨cR_2, fR_2, zR_2⟩ := xR_2.out
      have HY := Lib.hid HY
      have zb1 := hb1.size
      (try simp at zb1)
      go_wp2
      refine bodyPost_ret (v := .tuple #[.agg #[.slice none 0 0, .slice none 0 0, .slice none 0 0], .int .i64 5]) (by simp only [results, Tryz.results117]; go_simp) rfl ?_
      refine ⟨_, _, _, ret_si (by rw [HR.out]), by rw [HR.out]; exact ownS_nil _ _, ?_⟩
      repeat first | (with_reducible exact B2) | (with_reducible refine bl_alloc ?_ _) | (with_reducible refine bl_drew ?_) | (with_reducible refine bl_set ?_ (by first | exact Nat.le_refl _ | (simp; done) | (simp; omega)) _)

end Go.Proofs.YtndblondleclpaaGreatDoor
