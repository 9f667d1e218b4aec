/- FnBest: small walks. Each theorem names its conditions. -/
import Derived.Test.YtgmofofokhlhnaaFbM
import Derived.Test.YtgmofofokhlhnaaTermsW
import Derived.Test.YtgmofofokhlhnaaVal
namespace Go.Proofs.Ytgmofofokhlhnaa
open Go.RowKit
set_option linter.unusedVariables false
set_option linter.unusedSimpArgs false


set_option maxRecDepth 100000 in
set_option maxHeartbeats 3200000 in
theorem expandS_ok {n d : Int} (w : World) (ok : okF n d = true) :
    Calls Try.prog 38 #[.agg #[.int .i64 n, .int .i64 d]] w fun e w' => ∃ a c, e = .returned (.tuple #[.slice a (termsF n d).length c, .int .i64 0]) ∧ Own w' w.heap.size (.slice a (termsF n d).length c) (termsF n d) ∧ Bl w w' := by
  have hok := okF_bd ok
  have HOK := Lib.hid ok
  clear ok
  go_enter Try.func38, Try.ntmps38
  go_wp2_with fail
  refine (ok_any n d _).mono ?_
  rintro e w1 ⟨rfl, hb1⟩
  have B1 : Bl w w1 := bl_call (bl_alloc (bl_refl _) _) hb1
  have xF_1 : Bx w1 (w.heap.size) #[.int .i64 (n), .int .i64 (d)] := (Bx.new (b := w.heap.size) _ #[.int .i64 (n), .int .i64 (d)] 55 (by first | rfl | simp)).below hb1
  obtain ⟨cF_1, fF_1, zF_1⟩ := xF_1.out
  rw [HOK.out]
  go_wp2_with fail
  refine (lterms_any n d _ (by omega) (by omega) (by omega)).mono ?_
  rintro e w2 ⟨a, c, rfl, HO, hb2⟩
  have B2 : Bl w w2 := bl_call B1 hb2
  have xF_2 : Bx w2 (w.heap.size) #[.int .i64 (n), .int .i64 (d)] := xF_1.below hb2
  clear cF_1 fF_1 zF_1
  obtain ⟨cF_2, fF_2, zF_2⟩ := xF_2.out
  have HO := Lib.hid HO
  go_wp2
  go_ret2
  exact ⟨a, c, rfl, HO.out.mono B1.size, B2⟩
theorem svalT_eqB {va : Value} {xs : List Int} {b : Bool} (h : termsP xs = b) (w : World) (ha : Sl w va xs) (hl : xs.length ≤ 1048576) : Calls Try.prog 116 #[va] w fun e w' => e = .returned (.bool b) ∧ Bl w w' := h ▸ svalT_any va xs w ha hl

set_option maxRecDepth 100000 in
set_option maxHeartbeats 3200000 in
theorem convOf_ok {va : Value} {xs : List Int} {fs : List (Int × Int)} (w : World) (ha : Sl w va xs) (hT : termsP xs = true) (hc : convL xs = some fs) :
    Calls Try.prog 50 #[va] w fun e w' => ∃ a c, e = .returned (.tuple #[.slice a fs.length c, .int .i64 0]) ∧ OwnF w' w.heap.size (.slice a fs.length c) fs ∧ Bl w w' := by
  have hl := (termsP_iff.1 hT).1
  have hb : ∀ x ∈ xs, -1000000000 ≤ x ∧ x ≤ 1000000000 := fun x hx => by
    obtain ⟨i, hi⟩ := List.getElem?_of_mem hx
    have := inB_iff.1 ((termsP_iff.1 hT).2 i x hi)
    unfold lowT at this
    split at this <;> omega
  have HT := Lib.hid hT
  have HC := Lib.hid hc
  have HA := Lib.hid ha
  have HB := Lib.hid hb
  obtain ⟨av, cv, rfl, hcv⟩ := ha.form'
  clear hT hc ha hb
  go_enter Try.func50, Try.ntmps50
  go_wp2_with fail
  refine (svalT_eqB HT.out _ HA.out (by omega)).mono ?_
  rintro e w1 ⟨rfl, hb1⟩
  have B1 : Bl w w1 := bl_call (bl_refl _) hb1
  go_wp2_with fail
  refine (convS_any _ xs _ (HA.out.below B1) (by omega) HB.out).mono ?_
  rintro e w2 ⟨a, k, c, rfl, HO, hb2⟩
  have B2 : Bl w w2 := bl_call B1 hb2
  rw [HC.out] at HO
  rw [HC.out]
  obtain ⟨a9, c9, e9, _⟩ := (show OwnF w2 w1.heap.size (.slice a k c) fs from HO).form
  obtain ⟨rfl, rfl, rfl⟩ : a = a9 ∧ k = fs.length ∧ c = c9 := by simpa using e9
  have HO := Lib.hid (show OwnF w2 w1.heap.size (.slice a fs.length c) fs from HO)
  clear e9
  go_wp2
  go_ret2
  exact ⟨a, c, rfl, HO.out.mono B1.size, B2⟩

end Go.Proofs.Ytgmofofokhlhnaa
