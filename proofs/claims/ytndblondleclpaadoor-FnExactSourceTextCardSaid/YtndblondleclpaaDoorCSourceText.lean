/- FnExactSourceText holds: for all sources the program's SourceText returns what the reference's returns. Conditions: none beyond the row's own (three tables of the library lie as its text lays them; the card ties that to the text). -/
import Derived.Deep.RegionHeld3
import Derived.Test.YtndblondleclpaaDoorCards
import Derived.Test.YtndblondleclpaaDoorTie
import Derived.Test.YtndblondleclpaaDoorLaidT
import Derived.Test.YtndblondleclpaaDoorOpenI
import Derived.ChangeSame
import Derived.SevenTiedAt
import Derived.ProofKit
import Derived.LaidMore
import Derived.OpenShut
import Derived.Stop.Joined
import Derived.Test.YtndblondleclpaaDoorStS
import Derived.Test.YtndblondleclpaaDoorStI
import Derived.Test.YtndblondleclpaaDoorOpenSrc
import Derived.Test.YtndblondleclpaaDoorLawBs
namespace Go.Proofs.YtndblondleclpaaDoor
open Go.RowKit Go.ChangeShapes Go.WideShapes Go.ChangeAt
set_option linter.unusedVariables false
set_option linter.unusedSimpArgs false

set_option maxRecDepth 100000 in
set_option maxHeartbeats 3200000 in
theorem fnExactSourceText_walk (h p g : Value) (s : Src) (w : World) (ha : SlS w h p g s) (ht : Tab w) :
    Calls Tryd.prog 4 #[.agg #[h, p, g]] w fun e w' => e = .returned (.bool true) ∧ Bl w w' := by
  have HT := Lib.hid ht
  clear ht
  go_enter Tryd.func4, Tryd.ntmps4
  go_wp2_with fail
  refine (szS_any _ _ _ s _ _ (ha.alloc _) (by omega) (by omega)).mono ?_
  rintro e w1 ⟨rfl, hb1⟩
  have B1 : Bl w w1 := bl_call (bl_alloc (bl_refl _) _) hb1
  have xA_1 : Bx w1 (w.heap.size) #[h, p, g] := (Bx.new (b := w.heap.size) _ #[h, p, g] 28 rfl).below hb1
  obtain ⟨cA_1, fA_1, zA_1⟩ := xA_1.out
  by_cases hsz : szS 1048576 s < 0
  · go_wp2
    go_ret
    exact ⟨rfl, B1⟩
  obtain ⟨n1, n2, n3, n4, n5⟩ := szS_nonneg 1048576 s (by omega)
  have NL := Lib.hid (show s.H.length ≤ 1048576 ∧ s.P.length ≤ 1048576 ∧ s.G.length ≤ 1048576 by omega)
  clear n1 n2 n3 n4 n5
  go_wp2_with fail
  refine (toS_any _ _ _ s _ (ha.below B1) NL.out).mono ?_
  rintro e w2 ⟨h2, p2, g2, rfl, o2, hb2⟩
  have B2 : Bl w w2 := bl_call B1 hb2
  have xA_2 := xA_1.below hb2
  clear cA_1 fA_1 zA_1
  obtain ⟨cA_2, fA_2, zA_2⟩ := xA_2.out
  go_wp2_with fail
  refine (spec_SourceText _ _ _ s _ o2.sl).mono ?_
  rintro e w3 ⟨rfl, hb3⟩
  have B3 : Bl w w3 := bl_call B2 hb3
  have xA_3 := xA_2.below hb3
  clear cA_2 fA_2 zA_2
  obtain ⟨cA_3, fA_3, zA_3⟩ := xA_3.out
  go_wp2_with fail
  refine (toS_any _ _ _ s _ (ha.below B3) NL.out).mono ?_
  rintro e w4 ⟨h4, p4, g4, rfl, o4, hb4⟩
  obtain ⟨⟨d1, m1, e1, rfl⟩, ⟨d2, m2, e2, rfl⟩, ⟨d3, m3, e3, rfl⟩⟩ := o4.shape
  have B4 : Bl w w4 := bl_call B3 hb4
  have xA_4 := xA_3.below hb4
  clear cA_3 fA_3 zA_3
  obtain ⟨cA_4, fA_4, zA_4⟩ := xA_4.out
  go_wp2_with fail
  refine (impl_SourceText _ _ _ s _ (o4.sl.alloc _) (HT.out.below (bl_alloc B4 _))).mono ?_
  rintro e w5 ⟨rfl, hb5⟩
  have B5 : Bl w w5 := bl_call (bl_alloc B4 _) hb5
  have o5 := (o4.alloc _).below hb5
  have xA_5 : Bx w5 (w.heap.size) #[h, p, g] := (xA_4.alloc _).below hb5
  have xX_5 : Bx w5 (w4.heap.size) #[.slice d1 m1 e1, .slice d2 m2 e2, .slice d3 m3 e3] := (Bx.new (b := w4.heap.size) _ #[.slice d1 m1 e1, .slice d2 m2 e2, .slice d3 m3 e3] 31 rfl).below hb5
  clear cA_4 fA_4 zA_4
  obtain ⟨cA_5, fA_5, zA_5⟩ := xA_5.out
  obtain ⟨cX_5, fX_5, zX_5⟩ := xX_5.out
  go_wp2_with fail
  go_region_held3 (fun w' => (w'.cell? ⟨w.heap.size, 0, none⟩ = some h ∧ w'.cell? ⟨w.heap.size, 1, none⟩ = some p ∧ w'.cell? ⟨w.heap.size, 2, none⟩ = some g) ∧ w'.cell? ⟨w4.heap.size, 0, none⟩ = some (.slice d1 m1 e1) ∧ w'.cell? ⟨w4.heap.size, 1, none⟩ = some (.slice d2 m2 e2) ∧ w'.cell? ⟨w4.heap.size, 2, none⟩ = some (.slice d3 m3 e3)) (first | (simp [cA_5, cX_5]; done) | (simp [*]; done))
    (first
     | (go_at_call 13; go_must (refine (toS_any _ _ _ s _ ((ha.below B5).drew) NL.out).mono ?_; rintro e w6 ⟨h6, p6, g6, rfl, o6, hb6⟩; have xA_6 := xA_5.drew.below hb6; have xX_6 := xX_5.drew.below hb6; have o5' := (OwnS.drew o5).below hb6; obtain ⟨cA_6, fA_6, zA_6⟩ := xA_6.out; obtain ⟨cX_6, fX_6, zX_6⟩ := xX_6.out))
     | (go_at_call 15; refine (eqS_any _ _ _ _ _ _ s s _ (OwnS.sl (by assumption)) (OwnS.sl (by assumption))).mono ?_; rintro e w7 ⟨rfl, hb7⟩; have xA_7 := xA_6.below hb7; have xX_7 := xX_6.below hb7; obtain ⟨cA_7, fA_7, zA_7⟩ := xA_7.out; obtain ⟨cX_7, fX_7, zX_7⟩ := xX_7.out))
  all_goals go_wp2
  all_goals go_ret
  all_goals exact ⟨rfl, bl_call (bl_call (bl_drew B5) hb6) hb7⟩

/-- The listed variables. -/
def fnExactSourceTextLaid : List (String × DataW Unit) := [("math/bits.deBruijn32tab", Rows.laid_math_bits_deBruijn32tab), ("math/bits.deBruijn64tab", Rows.laid_math_bits_deBruijn64tab), ("internal/strconv.uint64pow10", Rows.laid_internal_strconv_uint64pow10)]
theorem fnExactSourceText_door (os : Os) (args : Array Value) : laidMetH Tryd.prog fnExactSourceTextLaid ((World.doorLaid Tryd.prog 72 os).forCall (fun _ _ => 0) ⟨#[], args, []⟩).memory :=
  laidMetH_of_parts3 (fuel := 8) (laidMet_of_run' 8 (by kernel_rfl) (by kernel_rfl)) (by kernel_rfl) (by kernel_rfl)
set_option maxRecDepth 100000 in
theorem fnExactSourceText_lifted (os : Os) (started : os.Started) (H : Type) (enc : TypeId × Value → H) :
    ReturnsInHanded {} Tryd.checked os 4 .any (fun w args => (Rows.fnExactSourceTextSpec.pre enc Tryd.prog Tryd.f4 [] false w args ∧ laidMetH Tryd.prog fnExactSourceTextLaid w) ∧ sizedMet enc Tryd.prog Tryd.f4 (OpenSpec.ofChange Rows.fnExactSourceTextSpec) false w args)
      (Rows.fnExactSourceTextSpec.post enc Tryd.prog Tryd.f4 false true false false) := by
  refine returnsInHanded_of_change_and (C := Tryd.checked) (X := fun w _ => laidMetH Tryd.prog fnExactSourceTextLaid w) (fun _ _ _ hh h => h.of_heap hh) own started (by kernel_rfl) Tryd.func4
    (ChangeSpec.witness_shaped (enc := enc) (C := Tryd.checked) (os := os) (X := fun w _ => laidMetH Tryd.prog fnExactSourceTextLaid w) false (World.doorLaid Tryd.prog 72 os) #[.agg #[.slice none 0 0, .slice none 0 0, .slice none 0 0]] 8 rfl (World.shaped_of_RefB (by kernel_rfl) (by kernel_rfl)) (by kernel_rfl) (by kernel_rfl) (by kernel_rfl) (fnExactSourceText_door os _)) ?_
  intro W base args ds gs before hval0 hW _ _ hL0 _
  have hL : laidMet Tryd.prog fnExactSourceTextLaid W := by
    have h := hL0
    rwa [MakeChecks.laidMetH_plain _ _ _ (by kernel_rfl)] at h
  unfold fnExactSourceTextLaid at hL
  have hval : ∀ (j : Nat) t v, Tryd.f4.params[j]? = some t → args[j]? = some v → Value.okWide Tryd.prog W .any base t v := hval0
  have hW' := hW
  obtain ⟨p, q, hA0, hV, rfl, hfz, hnd⟩ := hW
  have hA : DataW.TrodAll enc Tryd.prog W 0 (fun _ => true) true Tryd.f4.params.toList args.toList ds p := hA0
  rw [Tryd.params4] at hA hval
  obtain ⟨v0, vs0, d0, ds0, p0, q0, hargs, rfl, rfl, h0, r0⟩ := trodAll_cons hA
  obtain ⟨rfl, rfl, rfl⟩ := trodAll_nil r0
  obtain rfl : args = #[v0] := by cases args; simp_all
  obtain ⟨rfl, rfl⟩ := trodVars_none hV
  have k0 := h0
  have lt0 : ∀ x ∈ p0, x.block < W.heap.size := by obtain ⟨m, hm⟩ := k0; exact DataW.trod_lt m _ _ _ hm
  obtain ⟨a0, b0, c0, s0, rfl, S0⟩ := src_of_trod (hval 0 28 v0 rfl rfl) h0
  clear hA0 hval0
  refine (fnExactSourceText_walk a0 b0 c0 s0 W S0 (tab_of_laid hL)).mono fun e W' ⟨he, bel⟩ => ?_
  subst he
  exact ⟨_, rfl, _, _, _, [], _, [], hW', trodAll_mk1 (shut_bool Tryd.underlying4 _), (trodAll_cons_mk (Below.trod laidOut (by kernel_rfl) (of_decide_eq_true (by kernel_rfl)) k0 bel lt0) trodAll_mk0), rfl, bel.frame _, fun h => by cases h⟩

theorem fnExactSourceText_row : Rows.FnExactSourceTextSaid :=
  OpenClaim.holds_of_wide 4 Tryd.f4 rfl rfl rfl rfl rfl rfl rfl ⟨rfl, rfl, rfl, rfl, rfl⟩ rfl rfl rfl rfl rfl (by kernel_rfl) Tryd.func4 (by kernel_rfl)
    (of_decide_eq_true (by kernel_rfl)) (by unfold Func.isWrapper; first | (rw [if_pos (by decide +kernel)]; kernel_rfl) | (rw [if_neg (by decide +kernel)]; exact ⟨rfl, rfl⟩))
    (fun os started H enc _ => fnExactSourceText_lifted os started H enc)

/-- THE STATEMENT: the card. -/
theorem fnExactSourceText_holds : Rows.FnExactSourceTextCardSaid :=
  Claim7.holds_tied_plain_at .later [] [.data, .data, .data] true Rows.fnExactSourceTextCard.stood.harness true
    fnExactSourceText_row (fun _ h => by cases h) (by kernel_rfl) (fun _ h => by cases h) fnExactSourceText_row_tie rfl ⟨rfl, rfl⟩ (by kernel_rfl) rfl
    (fun f fn hf hfn => by
      obtain rfl : f = 4 := Option.some.inj ((show Tryd.prog.funcNamed "loop.example/g01007/laws.FnExactSourceText" = some 4 by kernel_rfl).symm.trans hf) |>.symm
      obtain rfl : fn = Tryd.f4 := (Option.some.inj (Tryd.func4.symm.trans hfn)).symm
      refine ⟨by kernel_rfl, fun j t ht => ?_⟩
      rw [Tryd.params4] at ht
      have hm := Array.mem_of_getElem? ht
      simp at hm
      first
        | (subst hm; exact (show Tryd.prog.wantsStandIn _ = false by kernel_rfl))
        | (rcases hm with rfl | rfl <;> exact (show Tryd.prog.wantsStandIn _ = false by kernel_rfl))
        | (rcases hm with rfl | rfl | rfl <;> exact (show Tryd.prog.wantsStandIn _ = false by kernel_rfl)))
    (by kernel_rfl)
#print axioms fnExactSourceText_holds

end Go.Proofs.YtndblondleclpaaDoor
