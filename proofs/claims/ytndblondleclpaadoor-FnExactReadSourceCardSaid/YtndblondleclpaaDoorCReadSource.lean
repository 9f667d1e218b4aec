/- FnExactReadSource holds: for all texts the program's ReadSource returns what the reference's returns. Conditions: none beyond the row's own (tables and two errors of the library lie as its text lays them; the card ties that to the text). -/
import Derived.Deep.RegionHeld3
import Derived.Test.YtndblondleclpaaDoorCards
import Derived.Test.YtndblondleclpaaDoorTie
import Derived.Test.YtndblondleclpaaDoorLaidT
import Derived.Test.YtndblondleclpaaDoorOpenI
import Derived.ChangeSame
import Derived.SevenTiedAt
import Derived.ProofKit
import Derived.LaidMore
import Derived.OpenShut
import Derived.Stop.Joined
import Derived.Lay
import Derived.Test.YtndblondleclpaaDoorRsI
import Derived.Test.YtndblondleclpaaDoorEnvL
import Derived.Test.YtndblondleclpaaDoorOnly
namespace Go.Proofs.YtndblondleclpaaDoor
open Go.RowKit Go.ChangeShapes Go.WideShapes Go.ChangeAt
set_option linter.unusedVariables false
set_option linter.unusedSimpArgs false

theorem rsF_len (l : List UInt8) : (rsF l).1.H.length + (rsF l).1.P.length + (rsF l).1.G.length ≤ 90 := by
  cases h : rsS l with
  | none => rw [rsF_none h]; simp
  | some x =>
    obtain ⟨a, b, c⟩ := x
    rw [rsF_some h]
    have v := (rsS_iff.1 h).1
    have h1 := v.h30
    have h2 := v.p30
    have h3 := v.gp
    simp only
    omega
set_option maxRecDepth 100000 in
set_option maxHeartbeats 6400000 in
theorem fnExactReadSource_walk (s : ByteArray) (w : World) (_ : s.size ≤ maxLen) (hE : Env w) :
    Calls Tryd.prog 6 #[.string s] w fun e w' => e = .returned (.bool true) ∧ Bl w w' := by
  have HE := Lib.hid hE
  clear hE
  by_cases hl : s.size ≤ 1048576
  · obtain ⟨⟨S, ok⟩, hA⟩ : ∃ x : Src × Bool, rsF s.data.toList = x := ⟨_, rfl⟩
    have hlen : S.H.length + S.P.length + S.G.length ≤ 90 := by have := rsF_len s.data.toList; rw [hA] at this; exact this
    have HL := Lib.hid hlen
    have PI : ∀ w', Env w' → Calls Tryd.prog 21 #[.string s] w' fun e w2 => ∃ h p g, e = .returned (.tuple #[.agg #[h, p, g], .bool ok]) ∧ OwnS w2 w'.heap.size h p g S ∧ Bl w' w2 := fun w' h => by
      have := impl_ReadSource s w' hl h
      unfold RsP at this
      rw [hA] at this
      exact this
    have PS : Calls Tryd.prog 20 #[.string s] w fun e w2 => ∃ h p g, e = .returned (.tuple #[.agg #[h, p, g], .bool ok]) ∧ OwnS w2 w.heap.size h p g S ∧ Bl w w2 := by
      have := spec_ReadSource s w hl
      unfold RsP at this
      rw [hA] at this
      exact this
    have HPI := Lib.hid PI
    have HPS := Lib.hid PS
    clear PI PS hlen hA
    go_enter Tryd.func6, Tryd.ntmps6
    go_wp2_with fail
    refine (HPS.out).mono ?_
    rintro e w2 ⟨h2, p2, g2, rfl, o2, hb2⟩; obtain ⟨⟨d2_1, m2_1, e2_1, rfl⟩, ⟨d2_2, m2_2, e2_2, rfl⟩, ⟨d2_3, m2_3, e2_3, rfl⟩⟩ := o2.shape
    have B2 : Bl w w2 := hb2
    have z2 := hb2.size
    have R2 := Lib.hid (show ∀ k, blks (.slice d2_1 m2_1 e2_1) (.slice d2_2 m2_2 e2_2) (.slice d2_3 m2_3 e2_3) k → w.heap.size ≤ k ∧ k < w2.heap.size from o2.blk)
    have o2_2 := o2.mono (bl_refl w).size
    clear o2
    go_wp2_with fail
    refine (HPI.out _ (HE.out.below (bl_alloc B2 _))).mono ?_
    rintro e w4 ⟨h4, p4, g4, rfl, o4, hb4⟩; obtain ⟨⟨d4_1, m4_1, e4_1, rfl⟩, ⟨d4_2, m4_2, e4_2, rfl⟩, ⟨d4_3, m4_3, e4_3, rfl⟩⟩ := o4.shape
    have B4 : Bl w w4 := bl_call (bl_alloc B2 _) hb4
    have x2_4 : Bx w4 (w2.heap.size) #[.slice d2_1 m2_1 e2_1, .slice d2_2 m2_2 e2_2, .slice d2_3 m2_3 e2_3] := (Bx.new (b := w2.heap.size) _ #[.slice d2_1 m2_1 e2_1, .slice d2_2 m2_2 e2_2, .slice d2_3 m2_3 e2_3] 31 (by first | rfl | simp)).below hb4
    have o2_4 := (o2_2.alloc _).below hb4
    have z4 := hb4.size
    obtain ⟨c2_4, f2_4, y2_4⟩ := x2_4.out
    have R4 := Lib.hid (show ∀ k, blks (.slice d4_1 m4_1 e4_1) (.slice d4_2 m4_2 e4_2) (.slice d4_3 m4_3 e4_3) k → w2.heap.size + 1 ≤ k ∧ k < w4.heap.size from fun k hk => by have := o4.blk k hk; first | omega | (simp at this; omega))
    have o4_4 := o4.mono (B := (w2.alloc _).heap.size) (bl_alloc B2 _).size
    clear o4
    go_wp2_with fail
    refine (eqS_any _ _ _ _ _ _ S S _ (o4_4.alloc _).sl (o2_4.alloc _).sl).mono ?_
    rintro e w5 ⟨rfl, hb5⟩
    have B5 : Bl w w5 := bl_call (bl_alloc B4 _) hb5
    have x2_5 : Bx w5 (w2.heap.size) #[.slice d2_1 m2_1 e2_1, .slice d2_2 m2_2 e2_2, .slice d2_3 m2_3 e2_3] := (x2_4.alloc _).below hb5
    have x4_5 : Bx w5 (w4.heap.size) #[.slice d4_1 m4_1 e4_1, .slice d4_2 m4_2 e4_2, .slice d4_3 m4_3 e4_3] := (Bx.new (b := w4.heap.size) _ #[.slice d4_1 m4_1 e4_1, .slice d4_2 m4_2 e4_2, .slice d4_3 m4_3 e4_3] 31 (by first | rfl | simp)).below hb5
    have o2_5 := (o2_4.alloc _).below hb5
    have o4_5 := (o4_4.alloc _).below hb5
    have z5 := hb5.size
    clear c2_4 f2_4 y2_4
    obtain ⟨c2_5, f2_5, y2_5⟩ := x2_5.out
    obtain ⟨c4_5, f4_5, y4_5⟩ := x4_5.out
    go_wp2_with fail
    refine (markS_any _ _ _ S 1 w.heap.size _ o4_5 (by omega) (by have := HL.out; omega)).mono ?_
    rintro e w6 ⟨rfl, on6, O6⟩
    have B6 : Bl w w6 := Below.only B5 O6 B5.size (fun k hk => by have := R4.out k hk; have := B2.size; omega)
    have z6 := O6.size
    have x2_6 : Bx w6 (w2.heap.size) #[.slice d2_1 m2_1 e2_1, .slice d2_2 m2_2 e2_2, .slice d2_3 m2_3 e2_3] := x2_5.onlyB O6 (fun q => by have := R4.out _ q; omega)
    have x4_6 : Bx w6 (w4.heap.size) #[.slice d4_1 m4_1 e4_1, .slice d4_2 m4_2 e4_2, .slice d4_3 m4_3 e4_3] := x4_5.onlyB O6 (fun q => by have := R4.out _ q; omega)
    have o2_6 := o2_5.only2 O6 (fun k q q' => by have := R2.out k q; have := R4.out k q'; have := B2.size; omega)
    clear c2_5 f2_5 y2_5 c4_5 f4_5 y4_5
    obtain ⟨c2_6, f2_6, y2_6⟩ := x2_6.out
    obtain ⟨c4_6, f4_6, y4_6⟩ := x4_6.out
    have o4_6 := on6
    clear on6
    go_wp2_with fail
    refine (heldS_yes _ _ _ S.H.length S.P.length S.G.length 1 _ o4_6.sl (by omega) (by have := HL.out; omega)).mono ?_
    rintro e w7 ⟨rfl, hb7⟩
    have B7 : Bl w w7 := bl_call B6 hb7
    have x2_7 : Bx w7 (w2.heap.size) #[.slice d2_1 m2_1 e2_1, .slice d2_2 m2_2 e2_2, .slice d2_3 m2_3 e2_3] := x2_6.below hb7
    have x4_7 : Bx w7 (w4.heap.size) #[.slice d4_1 m4_1 e4_1, .slice d4_2 m4_2 e4_2, .slice d4_3 m4_3 e4_3] := x4_6.below hb7
    have o2_7 := o2_6.below hb7
    have o4_7 := o4_6.below hb7
    have z7 := hb7.size
    clear c2_6 f2_6 y2_6 c4_6 f4_6 y4_6
    obtain ⟨c2_7, f2_7, y2_7⟩ := x2_7.out
    obtain ⟨c4_7, f4_7, y4_7⟩ := x4_7.out
    go_wp2_with fail
    refine (HPI.out _ (HE.out.below B7)).mono ?_
    rintro e w9 ⟨h9, p9, g9, rfl, o9, hb9⟩; obtain ⟨⟨d9_1, m9_1, e9_1, rfl⟩, ⟨d9_2, m9_2, e9_2, rfl⟩, ⟨d9_3, m9_3, e9_3, rfl⟩⟩ := o9.shape
    have B9 : Bl w w9 := bl_call B7 hb9
    have x2_9 : Bx w9 (w2.heap.size) #[.slice d2_1 m2_1 e2_1, .slice d2_2 m2_2 e2_2, .slice d2_3 m2_3 e2_3] := x2_7.below hb9
    have x4_9 : Bx w9 (w4.heap.size) #[.slice d4_1 m4_1 e4_1, .slice d4_2 m4_2 e4_2, .slice d4_3 m4_3 e4_3] := x4_7.below hb9
    have o2_9 := o2_7.below hb9
    have o4_9 := o4_7.below hb9
    have z9 := hb9.size
    clear c2_7 f2_7 y2_7 c4_7 f4_7 y4_7
    obtain ⟨c2_9, f2_9, y2_9⟩ := x2_9.out
    obtain ⟨c4_9, f4_9, y4_9⟩ := x4_9.out
    have R9 := Lib.hid (show ∀ k, blks (.slice d9_1 m9_1 e9_1) (.slice d9_2 m9_2 e9_2) (.slice d9_3 m9_3 e9_3) k → w7.heap.size ≤ k ∧ k < w9.heap.size from o9.blk)
    have o9_9 := o9.mono B7.size
    clear o9
    go_wp2_with fail
    refine (eqS_any _ _ _ _ _ _ S S _ (o9_9.alloc _).sl (o2_9.alloc _).sl).mono ?_
    rintro e w10 ⟨rfl, hb10⟩
    have B10 : Bl w w10 := bl_call (bl_alloc B9 _) hb10
    have x2_10 : Bx w10 (w2.heap.size) #[.slice d2_1 m2_1 e2_1, .slice d2_2 m2_2 e2_2, .slice d2_3 m2_3 e2_3] := (x2_9.alloc _).below hb10
    have x4_10 : Bx w10 (w4.heap.size) #[.slice d4_1 m4_1 e4_1, .slice d4_2 m4_2 e4_2, .slice d4_3 m4_3 e4_3] := (x4_9.alloc _).below hb10
    have x9_10 : Bx w10 (w9.heap.size) #[.slice d9_1 m9_1 e9_1, .slice d9_2 m9_2 e9_2, .slice d9_3 m9_3 e9_3] := (Bx.new (b := w9.heap.size) _ #[.slice d9_1 m9_1 e9_1, .slice d9_2 m9_2 e9_2, .slice d9_3 m9_3 e9_3] 31 (by first | rfl | simp)).below hb10
    have o2_10 := (o2_9.alloc _).below hb10
    have o4_10 := (o4_9.alloc _).below hb10
    have o9_10 := (o9_9.alloc _).below hb10
    have z10 := hb10.size
    clear c2_9 f2_9 y2_9 c4_9 f4_9 y4_9
    obtain ⟨c2_10, f2_10, y2_10⟩ := x2_10.out
    obtain ⟨c4_10, f4_10, y4_10⟩ := x4_10.out
    obtain ⟨c9_10, f9_10, y9_10⟩ := x9_10.out
    go_wp2_with fail
    refine (heldS_yes _ _ _ S.H.length S.P.length S.G.length 1 _ o4_10.sl (by omega) (by have := HL.out; omega)).mono ?_
    rintro e w11 ⟨rfl, hb11⟩
    have B11 : Bl w w11 := bl_call B10 hb11
    have x2_11 : Bx w11 (w2.heap.size) #[.slice d2_1 m2_1 e2_1, .slice d2_2 m2_2 e2_2, .slice d2_3 m2_3 e2_3] := x2_10.below hb11
    have x4_11 : Bx w11 (w4.heap.size) #[.slice d4_1 m4_1 e4_1, .slice d4_2 m4_2 e4_2, .slice d4_3 m4_3 e4_3] := x4_10.below hb11
    have x9_11 : Bx w11 (w9.heap.size) #[.slice d9_1 m9_1 e9_1, .slice d9_2 m9_2 e9_2, .slice d9_3 m9_3 e9_3] := x9_10.below hb11
    have o2_11 := o2_10.below hb11
    have o4_11 := o4_10.below hb11
    have o9_11 := o9_10.below hb11
    have z11 := hb11.size
    clear c2_10 f2_10 y2_10 c4_10 f4_10 y4_10 c9_10 f9_10 y9_10
    obtain ⟨c2_11, f2_11, y2_11⟩ := x2_11.out
    obtain ⟨c4_11, f4_11, y4_11⟩ := x4_11.out
    obtain ⟨c9_11, f9_11, y9_11⟩ := x9_11.out
    go_wp2
    go_ret
    exact ⟨rfl, B11⟩
  · have hl2 : 1048576 < (s.size : Int) := by omega
    go_enter Tryd.func6, Tryd.ntmps6
    go_wp2
    go_ret
    exact ⟨rfl, bl_refl _⟩

/-- The listed variables. -/
def fnExactReadSourceLaid : List (String × DataW Unit) := [("math/bits.deBruijn32tab", Rows.laid_math_bits_deBruijn32tab), ("math/bits.deBruijn64tab", Rows.laid_math_bits_deBruijn64tab), ("internal/strconv.uint64pow10", Rows.laid_internal_strconv_uint64pow10), ("unicode/utf8.acceptRanges", Rows.laid_unicode_utf8_acceptRanges), ("strconv.ErrRange", Rows.laid_strconv_ErrRange), ("strconv.ErrSyntax", Rows.laid_strconv_ErrSyntax), ("unicode/utf8.first", Rows.laid_unicode_utf8_first)]
set_option maxRecDepth 100000 in
theorem fnExactReadSource_lifted (os : Os) (started : os.Started) (H : Type) (enc : TypeId × Value → H) :
    ReturnsInHanded {} Tryd.checked os 6 .any (fun w args => (Rows.fnExactReadSourceSpec.pre enc Tryd.prog Tryd.f6 [] false w args ∧ laidMetH Tryd.prog fnExactReadSourceLaid w) ∧ sizedMet enc Tryd.prog Tryd.f6 (OpenSpec.ofChange Rows.fnExactReadSourceSpec) false w args)
      (Rows.fnExactReadSourceSpec.post enc Tryd.prog Tryd.f6 false true false false) := by
  refine handed_shaped (C := Tryd.checked) (X := fun w _ => laidMetH Tryd.prog fnExactReadSourceLaid w) (fun _ _ _ hh h => h.of_heap hh) own started (by kernel_rfl) Tryd.func6
    (ChangeSpec.witness_shaped (enc := enc) (C := Tryd.checked) (os := os) (X := fun w _ => laidMetH Tryd.prog fnExactReadSourceLaid w) false (World.laidAll Tryd.prog os fnExactReadSourceLaid) #[.string ⟨#[]⟩] 8 (World.laidAll_os _ _ _) (World.shaped_of_ZipB (by kernel_rfl) (by kernel_rfl)) (by kernel_rfl) (by kernel_rfl) (by kernel_rfl) (by rw [MakeChecks.laidMetH_plain _ _ _ (by kernel_rfl)]; exact laidMet_laidAll _ (by kernel_rfl) (by kernel_rfl))) ?_
  intro W base args ds gs before hval0 hW hL0 hsh
  have hL : laidMet Tryd.prog fnExactReadSourceLaid W := by
    have h := hL0
    rwa [MakeChecks.laidMetH_plain _ _ _ (by kernel_rfl)] at h
  unfold fnExactReadSourceLaid at hL
  have hval : ∀ (j : Nat) t v, Tryd.f6.params[j]? = some t → args[j]? = some v → Value.okWide Tryd.prog W .any base t v := hval0
  have hW' := hW
  obtain ⟨p, q, hA0, hV, rfl, hfz, hnd⟩ := hW
  have hA : DataW.TrodAll enc Tryd.prog W 0 (fun _ => true) true Tryd.f6.params.toList args.toList ds p := hA0
  rw [Tryd.params6] at hA hval
  obtain ⟨v0, vs0, d0, ds0, p0, q0, hargs, rfl, rfl, h0, r0⟩ := trodAll_cons hA
  obtain ⟨rfl, rfl, rfl⟩ := trodAll_nil r0
  obtain rfl : args = #[v0] := by cases args; simp_all
  obtain ⟨rfl, rfl⟩ := trodVars_none hV
  have k0 := h0
  have lt0 : ∀ x ∈ p0, x.block < W.heap.size := by obtain ⟨m, hm⟩ := k0; exact DataW.trod_lt m _ _ _ hm
  obtain ⟨x0, rfl, _, _, S0⟩ := Go.ChangeMaps.open_string Tryd.underlying9 (hval 0 9 v0 rfl rfl) h0
  clear hA0 hval0
  refine (fnExactReadSource_walk x0 W S0 ⟨tab_of_laid hL, syn_of_head hL.tail.tail.tail.tail.tail, rng_of_head hL.tail.tail.tail.tail, mx_of_shape hsh⟩).mono fun e W' ⟨he, bel⟩ => ?_
  subst he
  exact ⟨_, rfl, _, _, _, [], _, [], hW', trodAll_mk1 (shut_bool Tryd.underlying4 _), (trodAll_cons_mk (Below.trod laidOut (by kernel_rfl) (of_decide_eq_true (by kernel_rfl)) k0 bel lt0) trodAll_mk0), rfl, bel.frame _, fun h => by cases h⟩

theorem fnExactReadSource_row : Rows.FnExactReadSourceSaid :=
  OpenClaim.holds_of_wide 6 Tryd.f6 rfl rfl rfl rfl rfl rfl rfl ⟨rfl, rfl, rfl, rfl, rfl⟩ rfl rfl rfl rfl rfl (by kernel_rfl) Tryd.func6 (by kernel_rfl)
    (of_decide_eq_true (by kernel_rfl)) (by unfold Func.isWrapper; first | (rw [if_pos (by decide +kernel)]; kernel_rfl) | (rw [if_neg (by decide +kernel)]; exact ⟨rfl, rfl⟩))
    (fun os started H enc _ => fnExactReadSource_lifted os started H enc)

/-- THE STATEMENT: the card. -/
theorem fnExactReadSource_holds : Rows.FnExactReadSourceCardSaid :=
  Claim7.holds_tied_plain_at .later [] [.data, .data, .data, .data, .sentinel, .sentinel, .pinned] true Rows.fnExactReadSourceCard.stood.harness true
    fnExactReadSource_row (fun _ h => by cases h) (by kernel_rfl) (fun _ h => by cases h) fnExactReadSource_row_tie rfl ⟨rfl, rfl⟩ (by kernel_rfl) rfl
    (fun f fn hf hfn => by
      obtain rfl : f = 6 := Option.some.inj ((show Tryd.prog.funcNamed "loop.example/g01007/laws.FnExactReadSource" = some 6 by kernel_rfl).symm.trans hf) |>.symm
      obtain rfl : fn = Tryd.f6 := (Option.some.inj (Tryd.func6.symm.trans hfn)).symm
      refine ⟨by kernel_rfl, fun j t ht => ?_⟩
      rw [Tryd.params6] at ht
      have hm := Array.mem_of_getElem? ht
      simp at hm
      first
        | (subst hm; exact (show Tryd.prog.wantsStandIn _ = false by kernel_rfl))
        | (rcases hm with rfl | rfl <;> exact (show Tryd.prog.wantsStandIn _ = false by kernel_rfl))
        | (rcases hm with rfl | rfl | rfl <;> exact (show Tryd.prog.wantsStandIn _ = false by kernel_rfl)))
    (by kernel_rfl)
#print axioms fnExactReadSource_holds

end Go.Proofs.YtndblondleclpaaDoor
