/- FnExactDigitsText holds: for all bases, floors and lists of digits the program's DigitsText returns what the reference's returns. Conditions: none beyond the row's own (three tables of the library lie as its text lays them; the card ties that to the text). -/
import Derived.Test.YtndblondleclpaaDoorCards
import Derived.Test.YtndblondleclpaaDoorTie
import Derived.Test.YtndblondleclpaaDoorLaidT
import Derived.Test.YtndblondleclpaaDoorOpenI
import Derived.ChangeSame
import Derived.SevenTiedAt
import Derived.ProofKit
import Derived.LaidMore
import Derived.OpenShut
import Derived.Stop.Joined
namespace Go.Proofs.YtndblondleclpaaDoor
open Go.RowKit Go.ChangeShapes Go.WideShapes Go.ChangeAt
set_option linter.unusedVariables false
set_option linter.unusedSimpArgs false

set_option maxRecDepth 100000 in
set_option maxHeartbeats 1600000 in
theorem fnExactDigitsText_walk (b wh : Int) (va : Value) (xs : List Int) (w : World) (_ : R64 b) (_ : R64 wh) (ha : Sl w va xs) (ht : Tab w) :
    Calls Tryd.prog 3 #[.int .i64 b, .int .i64 wh, va] w fun e w' => e = .returned (.bool true) ∧ Bl w w' := by
  obtain ⟨a0, c0, rfl, hc0⟩ := ha.form
  have HA := Lib.hid ha
  have HT := Lib.hid ht
  clear ha ht
  go_enter Tryd.func3, Tryd.ntmps3
  by_cases hl : xs.length ≤ 1048576
  · go_wp2_with fail
    refine (toI_any _ xs _ HA.out (by omega)).mono ?_
    rintro e w1 ⟨a1, n1, c1, rfl, O1, B1⟩
    have HO1 := Lib.hid O1.sl
    clear O1
    go_wp2_with fail
    refine (spec_DigitsText b wh _ xs _ HO1.out hl).mono ?_
    rintro e w2 ⟨rfl, B2'⟩
    have B2 := bl_call B1 B2'
    go_wp2_with fail
    refine (toI_any _ xs _ (HA.out.below B2) (by omega)).mono ?_
    rintro e w3 ⟨a3, n3, c3, rfl, O3, B3'⟩
    have B3 := bl_call B2 B3'
    have HO3 := Lib.hid O3.sl
    clear O3 B1 B2' B3'
    go_wp2_with fail
    refine (impl_DigitsText b wh _ xs _ HO3.out hl (HT.out.below B3)).mono ?_
    rintro e w4 ⟨rfl, B4'⟩
    have B4 := bl_call B3 B4'
    go_wp2_with fail
    refine (toI_any _ xs _ (HA.out.below B4) (by omega)).mono ?_
    rintro e w5 ⟨a5, n5, c5, rfl, O5, B5'⟩
    have B5 := bl_call B4 B5'
    have HO5 := Lib.hid O5.sl
    clear O5
    go_wp2_with fail
    refine (eqI_any _ _ xs xs _ ((HO3.out.below B4').below B5') HO5.out).mono ?_
    rintro e w6 ⟨he, B6'⟩
    obtain rfl : e = .returned (.bool true) := by simpa using he
    have B6 := bl_call B5 B6'
    go_wp2
    go_ret
    exact ⟨rfl, B6⟩
  · go_wp2
    go_ret
    exact ⟨rfl, bl_refl _⟩

/-- The listed variables. -/
def fnExactDigitsTextLaid : List (String × DataW Unit) := [("math/bits.deBruijn32tab", Rows.laid_math_bits_deBruijn32tab), ("math/bits.deBruijn64tab", Rows.laid_math_bits_deBruijn64tab), ("internal/strconv.uint64pow10", Rows.laid_internal_strconv_uint64pow10)]
theorem fnExactDigitsText_door (os : Os) (args : Array Value) : laidMetH Tryd.prog fnExactDigitsTextLaid ((World.doorLaid Tryd.prog 72 os).forCall (fun _ _ => 0) ⟨#[], args, []⟩).memory :=
  laidMetH_of_parts3 (fuel := 8) (laidMet_of_run' 8 (by kernel_rfl) (by kernel_rfl)) (by kernel_rfl) (by kernel_rfl)
set_option maxRecDepth 100000 in
theorem fnExactDigitsText_lifted (os : Os) (started : os.Started) (H : Type) (enc : TypeId × Value → H) :
    ReturnsInHanded {} Tryd.checked os 3 .any (fun w args => (Rows.fnExactDigitsTextSpec.pre enc Tryd.prog Tryd.f3 [] false w args ∧ laidMetH Tryd.prog fnExactDigitsTextLaid w) ∧ sizedMet enc Tryd.prog Tryd.f3 (OpenSpec.ofChange Rows.fnExactDigitsTextSpec) false w args)
      (Rows.fnExactDigitsTextSpec.post enc Tryd.prog Tryd.f3 false true false false) := by
  refine returnsInHanded_of_change_and (C := Tryd.checked) (X := fun w _ => laidMetH Tryd.prog fnExactDigitsTextLaid w) (fun _ _ _ hh h => h.of_heap hh) own started (by kernel_rfl) Tryd.func3
    (ChangeSpec.witness_shaped (enc := enc) (C := Tryd.checked) (os := os) (X := fun w _ => laidMetH Tryd.prog fnExactDigitsTextLaid w) false (World.doorLaid Tryd.prog 72 os) #[.int .i64 0, .int .i64 0, .slice none 0 0] 8 rfl (World.shaped_of_RefB (by kernel_rfl) (by kernel_rfl)) (by kernel_rfl) (by kernel_rfl) (by kernel_rfl) (fnExactDigitsText_door os _)) ?_
  intro W base args ds gs before hval0 hW _ _ hL0 _
  have hL : laidMet Tryd.prog fnExactDigitsTextLaid W := by
    have h := hL0
    rwa [MakeChecks.laidMetH_plain _ _ _ (by kernel_rfl)] at h
  unfold fnExactDigitsTextLaid at hL
  have hval : ∀ (j : Nat) t v, Tryd.f3.params[j]? = some t → args[j]? = some v → Value.okWide Tryd.prog W .any base t v := hval0
  have hW' := hW
  obtain ⟨p, q, hA0, hV, rfl, hfz, hnd⟩ := hW
  have hA : DataW.TrodAll enc Tryd.prog W 0 (fun _ => true) true Tryd.f3.params.toList args.toList ds p := hA0
  rw [Tryd.params3] at hA hval
  obtain ⟨v0, vs0, d0, ds0, p0, q0, hargs, rfl, rfl, h0, r0⟩ := trodAll_cons hA
  obtain ⟨v1, vs1, d1, ds1, p1, q1, rfl, rfl, rfl, h1, r1⟩ := trodAll_cons r0
  obtain ⟨v2, vs2, d2, ds2, p2, q2, rfl, rfl, rfl, h2, r2⟩ := trodAll_cons r1
  obtain ⟨rfl, rfl, rfl⟩ := trodAll_nil r2
  obtain rfl : args = #[v0, v1, v2] := by cases args; simp_all
  obtain ⟨rfl, rfl⟩ := trodVars_none hV
  have k0 := h0
  have lt0 : ∀ x ∈ p0, x.block < W.heap.size := by obtain ⟨m, hm⟩ := k0; exact DataW.trod_lt m _ _ _ hm
  have k1 := h1
  have lt1 : ∀ x ∈ p1, x.block < W.heap.size := by obtain ⟨m, hm⟩ := k1; exact DataW.trod_lt m _ _ _ hm
  have k2 := h2
  have lt2 : ∀ x ∈ p2, x.block < W.heap.size := by obtain ⟨m, hm⟩ := k2; exact DataW.trod_lt m _ _ _ hm
  have hv0 := hval 0 2 v0 rfl rfl
  obtain ⟨x0, rfl, _, _, w0⟩ := open_int Tryd.underlying2 hv0 h0
  have hv1 := hval 1 2 v1 rfl rfl
  obtain ⟨x1, rfl, _, _, w1⟩ := open_int Tryd.underlying2 hv1 h1
  obtain ⟨x2, S2⟩ := ints_of_trod (hval 2 22 v2 rfl rfl) h2
  clear hA0 hval0
  refine (fnExactDigitsText_walk x0 x1 v2 x2 W (r64_of_wf w0) (r64_of_wf w1) S2 (tab_of_laid hL)).mono fun e W' ⟨he, bel⟩ => ?_
  subst he
  exact ⟨_, rfl, _, _, _, [], _, [], hW', trodAll_mk1 (shut_bool Tryd.underlying4 _), (trodAll_cons_mk (Below.trod laidOut (by kernel_rfl) (of_decide_eq_true (by kernel_rfl)) k0 bel lt0) (trodAll_cons_mk (Below.trod laidOut (by kernel_rfl) (of_decide_eq_true (by kernel_rfl)) k1 bel lt1) (trodAll_cons_mk (Below.trod laidOut (by kernel_rfl) (of_decide_eq_true (by kernel_rfl)) k2 bel lt2) trodAll_mk0))), rfl, bel.frame _, fun h => by cases h⟩

theorem fnExactDigitsText_row : Rows.FnExactDigitsTextSaid :=
  OpenClaim.holds_of_wide 3 Tryd.f3 rfl rfl rfl rfl rfl rfl rfl ⟨rfl, rfl, rfl, rfl, rfl⟩ rfl rfl rfl rfl rfl (by kernel_rfl) Tryd.func3 (by kernel_rfl)
    (of_decide_eq_true (by kernel_rfl)) (by unfold Func.isWrapper; first | (rw [if_pos (by decide +kernel)]; kernel_rfl) | (rw [if_neg (by decide +kernel)]; exact ⟨rfl, rfl⟩))
    (fun os started H enc _ => fnExactDigitsText_lifted os started H enc)

/-- THE STATEMENT: the card. -/
theorem fnExactDigitsText_holds : Rows.FnExactDigitsTextCardSaid :=
  Claim7.holds_tied_plain_at .later [] [.data, .data, .data] true Rows.fnExactDigitsTextCard.stood.harness true
    fnExactDigitsText_row (fun _ h => by cases h) (by kernel_rfl) (fun _ h => by cases h) fnExactDigitsText_row_tie rfl ⟨rfl, rfl⟩ (by kernel_rfl) rfl
    (fun f fn hf hfn => by
      obtain rfl : f = 3 := Option.some.inj ((show Tryd.prog.funcNamed "loop.example/g01007/laws.FnExactDigitsText" = some 3 by kernel_rfl).symm.trans hf) |>.symm
      obtain rfl : fn = Tryd.f3 := (Option.some.inj (Tryd.func3.symm.trans hfn)).symm
      refine ⟨by kernel_rfl, fun j t ht => ?_⟩
      rw [Tryd.params3] at ht
      have hm := Array.mem_of_getElem? ht
      simp at hm
      first
        | (subst hm; exact (show Tryd.prog.wantsStandIn _ = false by kernel_rfl))
        | (rcases hm with rfl | rfl <;> exact (show Tryd.prog.wantsStandIn _ = false by kernel_rfl))
        | (rcases hm with rfl | rfl | rfl <;> exact (show Tryd.prog.wantsStandIn _ = false by kernel_rfl)))
    (by kernel_rfl)
#print axioms fnExactDigitsText_holds

end Go.Proofs.YtndblondleclpaaDoor
