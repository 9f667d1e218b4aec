/- FnExactReadDigits holds: for all bases and texts the program's ReadDigits returns what the reference's returns. Conditions: none beyond the row's own (tables and two errors of the library lie as its text lays them; the card ties that to the text). -/
import Derived.Deep.RegionHeld3
import Derived.Test.YtndblondleclpaaDoorCards
import Derived.Test.YtndblondleclpaaDoorTie
import Derived.Test.YtndblondleclpaaDoorLaidT
import Derived.Test.YtndblondleclpaaDoorOpenI
import Derived.ChangeSame
import Derived.SevenTiedAt
import Derived.ProofKit
import Derived.LaidMore
import Derived.OpenShut
import Derived.Stop.Joined
import Derived.Test.YtndblondleclpaaDoorRgI
import Derived.Test.YtndblondleclpaaDoorEnvL
import Derived.Test.YtndblondleclpaaDoorOnly
namespace Go.Proofs.YtndblondleclpaaDoor
open Go.RowKit Go.ChangeShapes Go.WideShapes Go.ChangeAt
set_option linter.unusedVariables false
set_option linter.unusedSimpArgs false

theorem rdgF_len (base : Int) (l : List UInt8) : (rdgF base l).2.1.length ≤ 1000 := by
  cases h : rdgS base l with
  | none => rw [rdgF_none h]; simp
  | some x => obtain ⟨a, b⟩ := x; rw [rdgF_some h]; exact (rdgS_iff.1 h).1.l
set_option maxRecDepth 100000 in
set_option maxHeartbeats 3200000 in
theorem fnExactReadDigits_walk (b : Int) (s : ByteArray) (w : World) (_ : R64 b) (_ : s.size ≤ maxLen) (hE : Env w) :
    Calls Tryd.prog 5 #[.int .i64 b, .string s] w fun e w' => e = .returned (.bool true) ∧ Bl w w' := by
  have HE := Lib.hid hE
  clear hE
  by_cases hl : s.size ≤ 1048576
  · obtain ⟨⟨A1, A2, A3⟩, hA⟩ : ∃ x : Int × List Int × Bool, rdgF b s.data.toList = x := ⟨_, rfl⟩
    have hlen : A2.length ≤ 1000 := by have := rdgF_len b s.data.toList; rw [hA] at this; exact this
    have HL := Lib.hid hlen
    have PI : ∀ w', Env w' → Calls Tryd.prog 17 #[.int .i64 b, .string s] w' fun e w2 => ∃ a c, e = .returned (.tuple #[.int .i64 A1, .slice a A2.length c, .bool A3]) ∧ Own w2 w'.heap.size (.slice a A2.length c) A2 ∧ Bl w' w2 := fun w' h => by
      have := impl_ReadDigits b s w' hl h
      unfold RdgP at this
      rw [hA] at this
      exact this
    have PS : Calls Tryd.prog 16 #[.int .i64 b, .string s] w fun e w2 => ∃ a c, e = .returned (.tuple #[.int .i64 A1, .slice a A2.length c, .bool A3]) ∧ Own w2 w.heap.size (.slice a A2.length c) A2 ∧ Bl w w2 := by
      have := spec_ReadDigits b s w hl
      unfold RdgP at this
      rw [hA] at this
      exact this
    have HPI := Lib.hid PI
    have HPS := Lib.hid PS
    clear PI PS hlen hA
    go_enter Tryd.func5, Tryd.ntmps5
    go_wp2_with fail
    refine HPS.out.mono ?_
    rintro e w2 ⟨a2, c2, rfl, o2, B2⟩
    have R2 := Lib.hid (show ∀ k, (Value.slice a2 A2.length c2).ownBlock = some k → w.heap.size ≤ k ∧ k < w2.heap.size from o2.lt)
    have O2 := Lib.hid o2
    clear o2
    go_wp2_with fail
    refine (HPI.out w2 (HE.out.below B2)).mono ?_
    rintro e w4 ⟨a4, c4, rfl, o4, B4'⟩
    have B4 := bl_call B2 B4'
    have R4 := Lib.hid (show ∀ k, (Value.slice a4 A2.length c4).ownBlock = some k → w2.heap.size ≤ k ∧ k < w4.heap.size from o4.lt)
    have M4 := Lib.hid (o4.mono B2.size)
    have O2b := Lib.hid (O2.out.below B4')
    clear o4 B4'
    go_wp2_with fail
    refine (eqI_any _ _ A2 A2 _ M4.out.sl O2b.out.sl).mono ?_
    rintro e w5 ⟨he, B5'⟩
    obtain rfl : e = .returned (.bool true) := by simpa using he
    have B5 := bl_call B4 B5'
    have O2c := Lib.hid (O2b.out.below B5')
    have M5 := Lib.hid (M4.out.below B5')
    have z5 := B5'.size
    clear B5' he
    go_wp2_with fail
    refine (markI_any _ A2 1 w.heap.size _ M5.out (by omega) (by have := HL.out; omega)).mono ?_
    rintro e w6 ⟨rfl, on6, O6'⟩
    have O6 := Only.of_grown (S := fun k => (Value.slice a4 A2.length c4).ownBlock = some k) O6' (fun _ e => e)
    have z6 := O6.size
    have B6 : Bl w w6 := Below.only B5 O6 B5.size (fun k hk => by have := R4.out k hk; have := B2.size; omega)
    have O2d := Lib.hid (O2c.out.only O6 (fun k q q' => by have := R2.out k q; have := R4.out k q'; omega))
    have N6 := Lib.hid on6
    clear O6 O6' on6
    go_wp2_with fail
    refine (heldI_yes _ A2.length 1 _ N6.out.sl (by omega) (by have := HL.out; omega)).mono ?_
    rintro e w7 ⟨rfl, B7'⟩
    have B7 := bl_call B6 B7'
    have O2e := Lib.hid (O2d.out.below B7')
    have N7 := Lib.hid (N6.out.below B7')
    clear B7'
    go_wp2_with fail
    refine (HPI.out w7 (HE.out.below B7)).mono ?_
    rintro e w9 ⟨a9, c9, rfl, o9, B9'⟩
    have B9 := bl_call B7 B9'
    have O2f := Lib.hid (O2e.out.below B9')
    have N9 := Lib.hid (N7.out.below B9')
    have M9 := Lib.hid o9.sl
    clear o9 B9'
    go_wp2_with fail
    refine (eqI_any _ _ A2 A2 _ M9.out O2f.out.sl).mono ?_
    rintro e w10 ⟨he, B10'⟩
    obtain rfl : e = .returned (.bool true) := by simpa using he
    have B10 := bl_call B9 B10'
    have N10 := Lib.hid (N9.out.below B10')
    clear B10' he
    go_wp2_with fail
    refine (heldI_yes _ A2.length 1 _ N10.out.sl (by omega) (by have := HL.out; omega)).mono ?_
    rintro e w11 ⟨rfl, B11'⟩
    have B11 := bl_call B10 B11'
    go_wp2
    go_ret
    exact ⟨rfl, B11⟩
  · have hl2 : 1048576 < (s.size : Int) := by omega
    go_enter Tryd.func5, Tryd.ntmps5
    go_wp2
    go_ret
    exact ⟨rfl, bl_refl _⟩

/-- The listed variables. -/
def fnExactReadDigitsLaid : List (String × DataW Unit) := [("math/bits.deBruijn32tab", Rows.laid_math_bits_deBruijn32tab), ("math/bits.deBruijn64tab", Rows.laid_math_bits_deBruijn64tab), ("internal/strconv.uint64pow10", Rows.laid_internal_strconv_uint64pow10), ("strconv.ErrRange", Rows.laid_strconv_ErrRange), ("strconv.ErrSyntax", Rows.laid_strconv_ErrSyntax)]
theorem fnExactReadDigits_door (os : Os) (args : Array Value) : laidMetH Tryd.prog fnExactReadDigitsLaid ((World.doorLaid Tryd.prog 72 os).forCall (fun _ _ => 0) ⟨#[], args, []⟩).memory :=
  laidMetH_of_parts3 (fuel := 8) (laidMet_of_run' 8 (by kernel_rfl) (by kernel_rfl)) (by kernel_rfl) (by kernel_rfl)
set_option maxRecDepth 100000 in
theorem fnExactReadDigits_lifted (os : Os) (started : os.Started) (H : Type) (enc : TypeId × Value → H) :
    ReturnsInHanded {} Tryd.checked os 5 .any (fun w args => (Rows.fnExactReadDigitsSpec.pre enc Tryd.prog Tryd.f5 [] false w args ∧ laidMetH Tryd.prog fnExactReadDigitsLaid w) ∧ sizedMet enc Tryd.prog Tryd.f5 (OpenSpec.ofChange Rows.fnExactReadDigitsSpec) false w args)
      (Rows.fnExactReadDigitsSpec.post enc Tryd.prog Tryd.f5 false true false false) := by
  refine handed_shaped (C := Tryd.checked) (X := fun w _ => laidMetH Tryd.prog fnExactReadDigitsLaid w) (fun _ _ _ hh h => h.of_heap hh) own started (by kernel_rfl) Tryd.func5
    (ChangeSpec.witness_shaped (enc := enc) (C := Tryd.checked) (os := os) (X := fun w _ => laidMetH Tryd.prog fnExactReadDigitsLaid w) false (World.doorLaid Tryd.prog 72 os) #[.int .i64 0, .string ⟨#[]⟩] 8 rfl (World.shaped_of_RefB (by kernel_rfl) (by kernel_rfl)) (by kernel_rfl) (by kernel_rfl) (by kernel_rfl) (fnExactReadDigits_door os _)) ?_
  intro W base args ds gs before hval0 hW hL0 hsh
  have hL : laidMet Tryd.prog fnExactReadDigitsLaid W := by
    have h := hL0
    rwa [MakeChecks.laidMetH_plain _ _ _ (by kernel_rfl)] at h
  unfold fnExactReadDigitsLaid at hL
  have hval : ∀ (j : Nat) t v, Tryd.f5.params[j]? = some t → args[j]? = some v → Value.okWide Tryd.prog W .any base t v := hval0
  have hW' := hW
  obtain ⟨p, q, hA0, hV, rfl, hfz, hnd⟩ := hW
  have hA : DataW.TrodAll enc Tryd.prog W 0 (fun _ => true) true Tryd.f5.params.toList args.toList ds p := hA0
  rw [Tryd.params5] at hA hval
  obtain ⟨v0, vs0, d0, ds0, p0, q0, hargs, rfl, rfl, h0, r0⟩ := trodAll_cons hA
  obtain ⟨v1, vs1, d1, ds1, p1, q1, rfl, rfl, rfl, h1, r1⟩ := trodAll_cons r0
  obtain ⟨rfl, rfl, rfl⟩ := trodAll_nil r1
  obtain rfl : args = #[v0, v1] := by cases args; simp_all
  obtain ⟨rfl, rfl⟩ := trodVars_none hV
  have k0 := h0
  have lt0 : ∀ x ∈ p0, x.block < W.heap.size := by obtain ⟨m, hm⟩ := k0; exact DataW.trod_lt m _ _ _ hm
  have k1 := h1
  have lt1 : ∀ x ∈ p1, x.block < W.heap.size := by obtain ⟨m, hm⟩ := k1; exact DataW.trod_lt m _ _ _ hm
  have hv0 := hval 0 2 v0 rfl rfl
  obtain ⟨x0, rfl, _, _, w0⟩ := open_int Tryd.underlying2 hv0 h0
  obtain ⟨x1, rfl, _, _, S1⟩ := Go.ChangeMaps.open_string Tryd.underlying9 (hval 1 9 v1 rfl rfl) h1
  clear hA0 hval0
  refine (fnExactReadDigits_walk x0 x1 W (r64_of_wf w0) S1 ⟨tab_of_laid hL, syn_of_head hL.tail.tail.tail.tail, rng_of_head hL.tail.tail.tail, mx_of_shape hsh⟩).mono fun e W' ⟨he, bel⟩ => ?_
  subst he
  exact ⟨_, rfl, _, _, _, [], _, [], hW', trodAll_mk1 (shut_bool Tryd.underlying4 _), (trodAll_cons_mk (Below.trod laidOut (by kernel_rfl) (of_decide_eq_true (by kernel_rfl)) k0 bel lt0) (trodAll_cons_mk (Below.trod laidOut (by kernel_rfl) (of_decide_eq_true (by kernel_rfl)) k1 bel lt1) trodAll_mk0)), rfl, bel.frame _, fun h => by cases h⟩

theorem fnExactReadDigits_row : Rows.FnExactReadDigitsSaid :=
  OpenClaim.holds_of_wide 5 Tryd.f5 rfl rfl rfl rfl rfl rfl rfl ⟨rfl, rfl, rfl, rfl, rfl⟩ rfl rfl rfl rfl rfl (by kernel_rfl) Tryd.func5 (by kernel_rfl)
    (of_decide_eq_true (by kernel_rfl)) (by unfold Func.isWrapper; first | (rw [if_pos (by decide +kernel)]; kernel_rfl) | (rw [if_neg (by decide +kernel)]; exact ⟨rfl, rfl⟩))
    (fun os started H enc _ => fnExactReadDigits_lifted os started H enc)

/-- THE STATEMENT: the card. -/
theorem fnExactReadDigits_holds : Rows.FnExactReadDigitsCardSaid :=
  Claim7.holds_tied_plain_at .later [] [.data, .data, .data, .sentinel, .sentinel] true Rows.fnExactReadDigitsCard.stood.harness true
    fnExactReadDigits_row (fun _ h => by cases h) (by kernel_rfl) (fun _ h => by cases h) fnExactReadDigits_row_tie rfl ⟨rfl, rfl⟩ (by kernel_rfl) rfl
    (fun f fn hf hfn => by
      obtain rfl : f = 5 := Option.some.inj ((show Tryd.prog.funcNamed "loop.example/g01007/laws.FnExactReadDigits" = some 5 by kernel_rfl).symm.trans hf) |>.symm
      obtain rfl : fn = Tryd.f5 := (Option.some.inj (Tryd.func5.symm.trans hfn)).symm
      refine ⟨by kernel_rfl, fun j t ht => ?_⟩
      rw [Tryd.params5] at ht
      have hm := Array.mem_of_getElem? ht
      simp at hm
      first
        | (subst hm; exact (show Tryd.prog.wantsStandIn _ = false by kernel_rfl))
        | (rcases hm with rfl | rfl <;> exact (show Tryd.prog.wantsStandIn _ = false by kernel_rfl))
        | (rcases hm with rfl | rfl | rfl <;> exact (show Tryd.prog.wantsStandIn _ = false by kernel_rfl)))
    (by kernel_rfl)
#print axioms fnExactReadDigits_holds

end Go.Proofs.YtndblondleclpaaDoor
