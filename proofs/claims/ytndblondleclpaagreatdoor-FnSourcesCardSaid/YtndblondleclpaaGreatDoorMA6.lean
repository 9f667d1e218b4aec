/- Some of the texts of this claim, joined in one file: OpenB, SdM, TermAt, FirstT, FirstL, FsM, Eq, Same, Fin. -/
import Derived.Test.YtndblondleclpaaGreatDoorRows
import Derived.Test.YtndblondleclpaaGreatDoorDraw
import Derived.ProofKit
import Derived.OpenShut
import Derived.ShutString
import Derived.ChangeOld
import Derived.Lib.SmallJoins
import Derived.Test.YtndblondleclpaaGreatDoorSdK
import Derived.Test.YtndblondleclpaaGreatDoorMA4
import Derived.Test.YtndblondleclpaaGreatDoorMA2
import Derived.Test.YtndblondleclpaaGreatDoorTerm
import Derived.Test.YtndblondleclpaaGreatDoorSrcI
import Derived.Test.YtndblondleclpaaGreatDoorSrcS
import Derived.Test.YtndblondleclpaaGreatDoorApp
import Derived.Test.YtndblondleclpaaGreatDoorSkipM
import Derived.Test.YtndblondleclpaaGreatDoorMA5
import Derived.Test.YtndblondleclpaaGreatDoorLawBs
import Derived.Test.YtndblondleclpaaGreatDoorNum
/- How a law's arguments are opened: slices of bytes. No condition. -/
namespace Go.Proofs.YtndblondleclpaaGreatDoor
open Go.RowKit Go.ChangeShapes Go.WideShapes Go.ChangeAt
open Go.Joins (open_agg2)
set_option linter.unusedVariables false
set_option linter.unusedSimpArgs false
set_option maxRecDepth 100000

theorem own : ownKnob Tryz.prog.godebug = none := by kernel_rfl
theorem laidOut : laidOutB Tryz.prog = true := by kernel_rfl

theorem u8_of_wf {x : Int} (h : (Lit.int .u8 x).wf = true) : 0 ≤ x ∧ x ≤ 255 := by
  have := bounds_u8 h
  omega
theorem SlB.nil (w : World) : SlB w (.slice none 0 0) [] := ⟨none, 0, rfl, Nat.le_refl _, by simp [maxLen], by simp, fun _ => rfl, .inl rfl⟩

section
variable {H : Type} {enc : TypeId × Value → H} {W : World}

theorem slB_of_trod {fuel : Nat} {v : Value} {y : DataW H × List MemPlace} (h : DataW.trod enc Tryz.prog W 0 (fun _ => true) true fuel 22 [v] = some y) : ∃ xs, SlB W v xs := by
  rcases open_ints Tryz.underlying22 Tryz.underlying5 (by kernel_rfl) h with ⟨hcs, _⟩ | ⟨x, l, c, zs, hcs, _, hl, hm, hz, _, hcell, hwz⟩
  · simp at hcs
    subst hcs
    exact ⟨[], SlB.nil W⟩
  · simp at hcs
    subst hcs
    have hz' : zs.length = c := by simpa using hz
    have hlen : (zs.take l).length = l := by simp; omega
    refine ⟨zs.take l, some x, c, by rw [hlen], by omega, hm, fun n hn => u8_of_wf (hwz n (List.mem_of_mem_take hn)), by simp, ?_⟩
    by_cases h0 : l = 0
    · left; subst h0; simp
    · right
      obtain ⟨b, off, spot⟩ := x
      have hc := hcell 0 (by omega)
      have hspot : spot = none := by simpa [Addr.add] using World.cell?_spot hc
      subst hspot
      refine ⟨b, off, rfl, fun i n hi => ?_⟩
      have hil : i < l := by have := (List.getElem?_eq_some_iff.1 hi).1; omega
      have hc := hcell i (by omega)
      rw [List.getElem?_take, if_pos hil] at hi
      have e : zs.getD i 0 = n := by simp [hi]
      rw [e] at hc
      rw [← hc]
      unfold Addr.add
      split
      · rename_i hi0; subst hi0; rfl
      · rfl

theorem bytes_of_trod {v : Value} {d : DataW H} {p : List MemPlace} {r : Reach} {b0 : Nat} (hv : Value.okWide Tryz.prog W r b0 22 v) (h : DataW.Trod enc Tryz.prog W 0 (fun _ => true) true 22 v d p) :
    ∃ xs, SlB W v xs := by
  obtain ⟨a, l, c, rfl⟩ := okWide_slice Tryz.underlying22 hv
  obtain ⟨fuel, hf⟩ := h
  exact slB_of_trod (by simpa [Value.cells] using hf)

end

end Go.Proofs.YtndblondleclpaaGreatDoor

/- Draws of texts. Each theorem names its conditions. -/
namespace Go.Proofs.YtndblondleclpaaGreatDoor
open Go.RowKit
set_option linter.unusedVariables false
set_option linter.unusedSimpArgs false

set_option maxRecDepth 100000 in
set_option maxHeartbeats 6400000 in
theorem stext_draw {w0 w : World} {p N b n : Nat} {cs : Array Value} (h : SrcD w0 w p N) (hN : N ≤ 900000000) (hx : Bx w b cs) (hb : b ≠ p) (h0 : 0 < n) (hn : n ≤ 1000000) (hc : ∀ i < n, ∃ T : ByteArray, cs[i]? = some (.string T) ∧ T.size ≤ 64) :
    Calls Tryz.prog 68 #[.pointer (some ⟨p, 0, none⟩), .slice (some ⟨b, 0, none⟩) n n] w fun e w' => ∃ T : ByteArray, e = .returned (.string T) ∧ T.size ≤ 64 ∧ SrcD w0 w' p (N + 2) ∧ Upd w w' p := by
  go_enter Tryz.func68, Tryz.ntmps68
  go_wp2_with fail
  refine (dpick_any h hN (by omega)).mono ?_
  rintro e w1 ⟨r, rfl, r0, r1, hS1, hU1⟩
  have x1 := hx.upd hU1 hb
  obtain ⟨k, rfl⟩ := Int.eq_ofNat_of_zero_le r0
  have hk : k < n := by omega
  obtain ⟨x, hcx, hr⟩ := hc k hk
  have c1 : w1.cell? ⟨b, 0 + k, none⟩ = some (.string x) := by rw [Nat.zero_add, x1.out.1, hcx]
  have c2 : w1.cell? ⟨b, k, none⟩ = some (.string x) := by rw [x1.out.1, hcx]
  clear hcx hc
  go_wp2
  go_ret
  exact ⟨x, rfl, hr, hS1, hU1⟩
set_option maxRecDepth 100000 in
set_option maxHeartbeats 6400000 in
theorem sspoil_any {w0 w : World} {p N : Nat} {s : ByteArray} (h0 : SrcD w0 w p N) (hN : N ≤ 400000000) (hs : s.size ≤ 1000000) :
    Calls Tryz.prog 67 #[.pointer (some ⟨p, 0, none⟩), .string s] w fun e w' => ∃ T : ByteArray, e = .returned (.string T) ∧ T.size ≤ s.size + 64 ∧ SrcD w0 w' p (N + 10) ∧ Upd w w' p := by
  go_enter Tryz.func67, Tryz.ntmps67
  go_wp2_with fail
  refine (dpick_any h0 (by omega) (by omega)).mono ?_
  rintro e w1 ⟨x, rfl, x0, x1, hS1, hU1⟩
  by_cases c0 : x = 0
  · subst c0
    go_wp2_with fail
    refine (dpick_any hS1 (by omega) (by omega)).mono ?_
    rintro e w3 ⟨r, rfl, r0, r1, hS3, hU3⟩
    have U3 := upd_trans hU1 hU3
    obtain ⟨k, rfl⟩ := Int.eq_ofNat_of_zero_le r0
    have hk : k ≤ s.size := by omega
    have hki : (k : Int) ≤ (s.size : Int) := by omega
    go_wp2_with fail
    go_region_with ((go_simp; go_at_call 68; go_must (refine (stext_draw (b := w3.heap.size) (cs := #[.string ⟨#[32]⟩, .string ⟨#[48]⟩, .string ⟨#[45]⟩, .string ⟨#[120]⟩, .string ⟨#[49]⟩, .string ⟨#[57]⟩, .string ⟨#[46]⟩]) ((hS3.below (bl_drew (bl_refl w3))).below (bl_alloc (bl_refl _) (.cells #[.string ⟨#[32]⟩, .string ⟨#[48]⟩, .string ⟨#[45]⟩, .string ⟨#[120]⟩, .string ⟨#[49]⟩, .string ⟨#[57]⟩, .string ⟨#[46]⟩] 9))) (by omega) (Bx.new (b := w3.heap.size) _ _ _ rfl) (by have := hS3.out.2.1; omega) (by omega) (by omega) (fun i hi => by rcases (show i = 0 ∨ i = 1 ∨ i = 2 ∨ i = 3 ∨ i = 4 ∨ i = 5 ∨ i = 6 by omega) with rfl | rfl | rfl | rfl | rfl | rfl | rfl <;> exact ⟨_, rfl, by decide⟩)).mono ?_; rintro e w8 ⟨T, rfl, hT, hS8, hU8⟩; have U8 := upd_trans U3 (upd_trans (upd_bl (upd_bl (upd_refl _ _) (bl_drew (bl_refl w3))) (bl_alloc (bl_refl _) (.cells #[.string ⟨#[32]⟩, .string ⟨#[48]⟩, .string ⟨#[45]⟩, .string ⟨#[120]⟩, .string ⟨#[49]⟩, .string ⟨#[57]⟩, .string ⟨#[46]⟩] 9))) hU8))))
    all_goals
      go_wp2
      go_ret
      exact ⟨_, rfl, by simp only [ByteArray.size_append, ByteArray.size_extract]; omega, hS8.more (by omega), U8⟩
  · have e0 : (x == 0) = false := by simp [c0]
    by_cases c1 : x = 1
    · subst c1
      by_cases hz : s.size = 0
      · have hem := (empty_yes hz).1
        go_wp2
        go_ret
        exact ⟨_, rfl, by omega, hS1.more (by omega), hU1⟩
      · have hem := empty_no (s := s) (by omega)
        go_wp2_with fail
        refine (dpick_any hS1 (by omega) (by omega)).mono ?_
        rintro e w3 ⟨r, rfl, r0, r1, hS3, hU3⟩
        have U3 := upd_trans hU1 hU3
        obtain ⟨k, rfl⟩ := Int.eq_ofNat_of_zero_le r0
        have hk : k < s.size := by omega
        have hki : (k : Int) < (s.size : Int) := by omega
        have hw1 : IntKind.i64.wrap ((k : Int) + 1) = ((k + 1 : Nat) : Int) := by rw [IntKind.wrap_i64]; omega
        go_wp2_with fail
        go_region
        all_goals
          go_wp2
          go_ret
          exact ⟨_, rfl, by simp only [ByteArray.size_append, ByteArray.size_extract]; omega, (hS3.below (bl_drew (bl_refl _))).more (by omega), upd_bl U3 (bl_drew (bl_refl _))⟩
    · have e1 : (x == 1) = false := by simp [c1]
      go_wp2
      go_ret
      exact ⟨_, rfl, by omega, hS1.more (by omega), hU1⟩
set_option maxRecDepth 100000 in
set_option maxHeartbeats 6400000 in
theorem drdsrc_any {w : World} {v : Value} {bs : List Int} (h : SlB w v bs) (hl : bs.length ≤ 4096) :
    Calls Tryz.prog 18 #[v] w fun e w' => ∃ T : ByteArray, e = .returned (.string T) ∧ T.size ≤ 1048576 ∧ Bl w w' := by
  obtain ⟨av, cv, rfl, hcv⟩ := h.form
  have HS := Lib.hid h
  clear h
  go_enter Tryz.func18, Tryz.ntmps18
  go_wp2_with fail
  refine (dfrom_any HS.out (by omega)).mono ?_
  rintro e w1 ⟨p, rfl, hD, hb1⟩
  have hp := hD.out
  go_wp2_with fail
  refine (sdraw15_any hD (by omega)).mono ?_
  rintro e w2 ⟨h, pp, g, s, rfl, hO, hL, hS2, hU2⟩
  obtain ⟨⟨b1, m1, k1, rfl⟩, ⟨b2, m2, k2, rfl⟩, ⟨b3, m3, k3, rfl⟩⟩ := hO.shape
  have B2 := bl_of_upd hb1 hU2 (by omega)
  go_wp2_with fail
  have xX3 : Bx (w2.alloc (.cells #[.slice b1 m1 k1, .slice b2 m2 k2, .slice b3 m3 k3] 26)) w2.heap.size #[.slice b1 m1 k1, .slice b2 m2 k2, .slice b3 m3 k3] := Bx.new (b := w2.heap.size) _ _ _ rfl
  have S3 := hS2.below (bl_alloc (bl_refl w2) (.cells #[.slice b1 m1 k1, .slice b2 m2 k2, .slice b3 m3 k3] 26))
  have O3 := hO.below (bl_alloc (bl_refl w2) (.cells #[.slice b1 m1 k1, .slice b2 m2 k2, .slice b3 m3 k3] 26))
  have B3 : Bl w (w2.alloc (.cells #[.slice b1 m1 k1, .slice b2 m2 k2, .slice b3 m3 k3] 26)) := bl_alloc B2 _
  generalize w2.alloc (.cells #[.slice b1 m1 k1, .slice b2 m2 k2, .slice b3 m3 k3] 26) = w3 at *
  refine (ltx_any _ _ _ s w3 w2.heap.size O3.sl xX3 hL).mono ?_
  rintro e w4 ⟨T, rfl, hT, hb4⟩
  have S4 := S3.below hb4
  have B4 := bl_call B3 hb4
  clear S3 B3 O3 xX3 hO hL hS2 B2 hU2
  go_wp2_with fail
  refine (done_any S4 (by omega) (by omega)).mono ?_
  rintro e w5 ⟨b, rfl, hS5, hU5⟩
  have B5 := bl_of_upd B4 hU5 (by omega)
  cases b with
  | true =>
    go_wp2_with fail
    refine (sspoil_any hS5 (by omega) (by omega)).mono ?_
    rintro e w6 ⟨U, rfl, hU, hS6, hU6⟩
    have B6 := bl_of_upd B5 hU6 (by omega)
    go_wp2
    go_ret
    exact ⟨_, rfl, by omega, B6⟩
  | false =>
    go_wp2_with fail
    refine (done_any hS5 (by omega) (by omega)).mono ?_
    rintro e w6 ⟨b, rfl, hS6, hU6⟩
    have B6 := bl_of_upd B5 hU6 (by omega)
    cases b with
    | true =>
      go_wp2_with fail
      refine (stext_draw (b := w6.heap.size) (cs := #[.string ⟨#[]⟩, .string ⟨#[40]⟩, .string ⟨#[41]⟩, .string ⟨#[40, 41]⟩, .string ⟨#[49, 32, 40, 50]⟩, .string ⟨#[49, 32, 50, 41]⟩, .string ⟨#[49, 43, 50]⟩, .string ⟨#[40, 49, 43, 48, 41]⟩, .string ⟨#[40, 49, 32, 50, 41, 32, 51]⟩, .string ⟨#[40, 40, 49, 41]⟩, .string ⟨#[49, 32, 32, 50]⟩, .string ⟨#[40, 45, 49, 41]⟩]) (hS6.below (bl_alloc (bl_refl _) (.cells #[.string ⟨#[]⟩, .string ⟨#[40]⟩, .string ⟨#[41]⟩, .string ⟨#[40, 41]⟩, .string ⟨#[49, 32, 40, 50]⟩, .string ⟨#[49, 32, 50, 41]⟩, .string ⟨#[49, 43, 50]⟩, .string ⟨#[40, 49, 43, 48, 41]⟩, .string ⟨#[40, 49, 32, 50, 41, 32, 51]⟩, .string ⟨#[40, 40, 49, 41]⟩, .string ⟨#[49, 32, 32, 50]⟩, .string ⟨#[40, 45, 49, 41]⟩] 9))) (by omega) (Bx.new (b := w6.heap.size) _ _ _ rfl) (by have := hS6.out.2.1; omega) (by omega) (by omega) (fun i hi => by rcases (show i = 0 ∨ i = 1 ∨ i = 2 ∨ i = 3 ∨ i = 4 ∨ i = 5 ∨ i = 6 ∨ i = 7 ∨ i = 8 ∨ i = 9 ∨ i = 10 ∨ i = 11 by omega) with rfl | rfl | rfl | rfl | rfl | rfl | rfl | rfl | rfl | rfl | rfl | rfl <;> exact ⟨_, rfl, by decide⟩)).mono ?_
      rintro e w7 ⟨U, rfl, hU, hS7, hU7⟩
      have B7 := bl_of_upd (bl_alloc B6 _) hU7 (by omega)
      go_wp2
      go_ret
      exact ⟨_, rfl, by omega, B7⟩
    | false =>
      go_wp2
      go_ret
      exact ⟨_, rfl, by omega, B6⟩

end Go.Proofs.YtndblondleclpaaGreatDoor

/- TermAt: the program and the reference give the same. No condition. -/
namespace Go.Proofs.YtndblondleclpaaGreatDoor
open Go.RowKit
set_option linter.unusedVariables false
set_option linter.unusedSimpArgs false

theorem ret_iiT {r : Int × Int} {x b : Int} (h : r = (x, b)) : Ending.returned (.tuple #[.int .i64 x, .int .i64 b]) = .returned (.tuple #[.int .i64 r.1, .int .i64 r.2]) := by subst h; rfl
noncomputable def termAtF (s : Src) (k : Int) : Int × Int :=
  if okSrc s then (if inB k 0 1000 then (if (termP s k.toNat).2 then ((termP s k.toNat).1, 0) else (0, 3)) else (0, 2)) else (0, 1)

set_option maxRecDepth 100000 in
set_option maxHeartbeats 1600000 in
theorem impl_TermAt (h p g : Value) (s : Src) (k : Int) (w : World) (ha : SlS w h p g s) :
    Calls Tryz.prog 7 #[.agg #[h, p, g], .int .i64 k] w fun e w' => e = .returned (.tuple #[.int .i64 (termAtF s k).1, .int .i64 (termAtF s k).2]) ∧ Bl w w' := by
  cases e1 : okSrc s with
  | false =>
    have HR := Lib.hid (show termAtF s k = (0, 1) by simp [termAtF, e1])
    go_enter Tryz.func7, Tryz.ntmps7
    go_wp2_with fail
    refine (ivalid_any h p g s _ (ha.below (bl_alloc (bl_refl _) _))).mono ?_
    rintro e w1 ⟨rfl, hb1⟩
    have B1 : Bl w w1 := bl_call (bl_alloc (bl_refl _) _) hb1
    have xS_1 : Bx w1 (w.heap.size) #[h, p, g] := (Bx.new (b := w.heap.size) _ #[h, p, g] 26 (by first | rfl | simp)).below hb1
    obtain ⟨cS_1, fS_1, zS_1⟩ := xS_1.out
    go_wp2
    go_ret2
    exact ⟨ret_iiT HR.out, B1⟩
  | true =>
    cases e2 : inB k 0 1000 with
    | false =>
      have HR := Lib.hid (show termAtF s k = (0, 2) by simp [termAtF, e1, e2])
      go_enter Tryz.func7, Tryz.ntmps7
      go_wp2_with fail
      refine (ivalid_any h p g s _ (ha.below (bl_alloc (bl_refl _) _))).mono ?_
      rintro e w1 ⟨rfl, hb1⟩
      have B1 : Bl w w1 := bl_call (bl_alloc (bl_refl _) _) hb1
      have xS_1 : Bx w1 (w.heap.size) #[h, p, g] := (Bx.new (b := w.heap.size) _ #[h, p, g] 26 (by first | rfl | simp)).below hb1
      obtain ⟨cS_1, fS_1, zS_1⟩ := xS_1.out
      go_wp2_with (go_at_call 46; refine (within_any _ _ _ _).mono ?_; rintro e w' ⟨rfl, rfl⟩)
      go_ret2
      exact ⟨ret_iiT HR.out, B1⟩
    | true =>
      have hk := inB_iff.1 e2
      cases e3 : (termP s k.toNat).2 with
      | false =>
        have HR := Lib.hid (show termAtF s k = (0, 3) by simp [termAtF, e1, e2, e3])
        go_enter Tryz.func7, Tryz.ntmps7
        go_wp2_with fail
        refine (ivalid_any h p g s _ (ha.below (bl_alloc (bl_refl _) _))).mono ?_
        rintro e w1 ⟨rfl, hb1⟩
        have B1 : Bl w w1 := bl_call (bl_alloc (bl_refl _) _) hb1
        have xS_1 : Bx w1 (w.heap.size) #[h, p, g] := (Bx.new (b := w.heap.size) _ #[h, p, g] 26 (by first | rfl | simp)).below hb1
        obtain ⟨cS_1, fS_1, zS_1⟩ := xS_1.out
        go_wp2_with (go_at_call 46; refine (within_any _ _ _ _).mono ?_; rintro e w' ⟨rfl, rfl⟩)
        refine (iterm_any h p g s k _ (ha.below B1) (okSrc_iff.1 e1).okPer (by omega) (by omega)).mono ?_
        rintro e w2 ⟨rfl, hb2⟩
        have B2 : Bl w w2 := bl_call B1 hb2
        have xS_2 : Bx w2 (w.heap.size) #[h, p, g] := xS_1.below hb2
        clear cS_1 fS_1 zS_1
        obtain ⟨cS_2, fS_2, zS_2⟩ := xS_2.out
        go_wp2
        go_ret2
        exact ⟨ret_iiT HR.out, B2⟩
      | true =>
        have HR := Lib.hid (show termAtF s k = ((termP s k.toNat).1, 0) by simp [termAtF, e1, e2, e3])
        go_enter Tryz.func7, Tryz.ntmps7
        go_wp2_with fail
        refine (ivalid_any h p g s _ (ha.below (bl_alloc (bl_refl _) _))).mono ?_
        rintro e w1 ⟨rfl, hb1⟩
        have B1 : Bl w w1 := bl_call (bl_alloc (bl_refl _) _) hb1
        have xS_1 : Bx w1 (w.heap.size) #[h, p, g] := (Bx.new (b := w.heap.size) _ #[h, p, g] 26 (by first | rfl | simp)).below hb1
        obtain ⟨cS_1, fS_1, zS_1⟩ := xS_1.out
        go_wp2_with (go_at_call 46; refine (within_any _ _ _ _).mono ?_; rintro e w' ⟨rfl, rfl⟩)
        refine (iterm_any h p g s k _ (ha.below B1) (okSrc_iff.1 e1).okPer (by omega) (by omega)).mono ?_
        rintro e w2 ⟨rfl, hb2⟩
        have B2 : Bl w w2 := bl_call B1 hb2
        have xS_2 : Bx w2 (w.heap.size) #[h, p, g] := xS_1.below hb2
        clear cS_1 fS_1 zS_1
        obtain ⟨cS_2, fS_2, zS_2⟩ := xS_2.out
        go_wp2
        go_ret2
        exact ⟨ret_iiT HR.out, B2⟩

set_option maxRecDepth 100000 in
set_option maxHeartbeats 1600000 in
theorem spec_TermAt (h p g : Value) (s : Src) (k : Int) (w : World) (ha : SlS w h p g s) :
    Calls Tryz.prog 8 #[.agg #[h, p, g], .int .i64 k] w fun e w' => e = .returned (.tuple #[.int .i64 (termAtF s k).1, .int .i64 (termAtF s k).2]) ∧ Bl w w' := by
  cases e1 : okSrc s with
  | false =>
    have HR := Lib.hid (show termAtF s k = (0, 1) by simp [termAtF, e1])
    go_enter Tryz.func8, Tryz.ntmps8
    go_wp2_with fail
    refine (svalid_any h p g s _ _ (ha.below (bl_alloc (bl_refl _) _)) (Bx.new (b := w.heap.size) _ #[h, p, g] 26 rfl)).mono ?_
    rintro e w1 ⟨rfl, hb1⟩
    have B1 : Bl w w1 := bl_call (bl_alloc (bl_refl _) _) hb1
    have xS_1 : Bx w1 (w.heap.size) #[h, p, g] := (Bx.new (b := w.heap.size) _ #[h, p, g] 26 (by first | rfl | simp)).below hb1
    obtain ⟨cS_1, fS_1, zS_1⟩ := xS_1.out
    go_wp2
    go_ret2
    exact ⟨ret_iiT HR.out, B1⟩
  | true =>
    cases e2 : inB k 0 1000 with
    | false =>
      have HR := Lib.hid (show termAtF s k = (0, 2) by simp [termAtF, e1, e2])
      go_enter Tryz.func8, Tryz.ntmps8
      go_wp2_with fail
      refine (svalid_any h p g s _ _ (ha.below (bl_alloc (bl_refl _) _)) (Bx.new (b := w.heap.size) _ #[h, p, g] 26 rfl)).mono ?_
      rintro e w1 ⟨rfl, hb1⟩
      have B1 : Bl w w1 := bl_call (bl_alloc (bl_refl _) _) hb1
      have xS_1 : Bx w1 (w.heap.size) #[h, p, g] := (Bx.new (b := w.heap.size) _ #[h, p, g] 26 (by first | rfl | simp)).below hb1
      obtain ⟨cS_1, fS_1, zS_1⟩ := xS_1.out
      go_wp2_with (go_at_call 49; refine (in_any _ _ _ _).mono ?_; rintro e w' ⟨rfl, rfl⟩)
      go_ret2
      exact ⟨ret_iiT HR.out, B1⟩
    | true =>
      have hk := inB_iff.1 e2
      cases e3 : (termP s k.toNat).2 with
      | false =>
        have HR := Lib.hid (show termAtF s k = (0, 3) by simp [termAtF, e1, e2, e3])
        go_enter Tryz.func8, Tryz.ntmps8
        go_wp2_with fail
        refine (svalid_any h p g s _ _ (ha.below (bl_alloc (bl_refl _) _)) (Bx.new (b := w.heap.size) _ #[h, p, g] 26 rfl)).mono ?_
        rintro e w1 ⟨rfl, hb1⟩
        have B1 : Bl w w1 := bl_call (bl_alloc (bl_refl _) _) hb1
        have xS_1 : Bx w1 (w.heap.size) #[h, p, g] := (Bx.new (b := w.heap.size) _ #[h, p, g] 26 (by first | rfl | simp)).below hb1
        obtain ⟨cS_1, fS_1, zS_1⟩ := xS_1.out
        go_wp2_with (go_at_call 49; refine (in_any _ _ _ _).mono ?_; rintro e w' ⟨rfl, rfl⟩)
        refine (sterm_any h p g s k _ _ (ha.below B1) xS_1 (okSrc_iff.1 e1).okPer (by omega) (by omega)).mono ?_
        rintro e w2 ⟨rfl, hb2⟩
        have B2 : Bl w w2 := bl_call B1 hb2
        have xS_2 : Bx w2 (w.heap.size) #[h, p, g] := xS_1.below hb2
        clear cS_1 fS_1 zS_1
        obtain ⟨cS_2, fS_2, zS_2⟩ := xS_2.out
        go_wp2
        go_ret2
        exact ⟨ret_iiT HR.out, B2⟩
      | true =>
        have HR := Lib.hid (show termAtF s k = ((termP s k.toNat).1, 0) by simp [termAtF, e1, e2, e3])
        go_enter Tryz.func8, Tryz.ntmps8
        go_wp2_with fail
        refine (svalid_any h p g s _ _ (ha.below (bl_alloc (bl_refl _) _)) (Bx.new (b := w.heap.size) _ #[h, p, g] 26 rfl)).mono ?_
        rintro e w1 ⟨rfl, hb1⟩
        have B1 : Bl w w1 := bl_call (bl_alloc (bl_refl _) _) hb1
        have xS_1 : Bx w1 (w.heap.size) #[h, p, g] := (Bx.new (b := w.heap.size) _ #[h, p, g] 26 (by first | rfl | simp)).below hb1
        obtain ⟨cS_1, fS_1, zS_1⟩ := xS_1.out
        go_wp2_with (go_at_call 49; refine (in_any _ _ _ _).mono ?_; rintro e w' ⟨rfl, rfl⟩)
        refine (sterm_any h p g s k _ _ (ha.below B1) xS_1 (okSrc_iff.1 e1).okPer (by omega) (by omega)).mono ?_
        rintro e w2 ⟨rfl, hb2⟩
        have B2 : Bl w w2 := bl_call B1 hb2
        have xS_2 : Bx w2 (w.heap.size) #[h, p, g] := xS_1.below hb2
        clear cS_1 fS_1 zS_1
        obtain ⟨cS_2, fS_2, zS_2⟩ := xS_2.out
        go_wp2
        go_ret2
        exact ⟨ret_iiT HR.out, B2⟩

end Go.Proofs.YtndblondleclpaaGreatDoor

/- The first terms of a source: the program and the reference. Each theorem names its conditions. -/
namespace Go.Proofs.YtndblondleclpaaGreatDoor
open Go.RowKit
set_option linter.unusedVariables false
set_option linter.unusedSimpArgs false

/-- At most n terms from place k on. -/
def firstG (s : Src) : Nat → Nat → List Int
  | 0, _ => []
  | n + 1, k => if (termP s k).2 then (termP s k).1 :: firstG s n (k + 1) else []
/-- The first terms. -/
def firstL (s : Src) (n : Nat) : List Int := firstG s n 0
theorem firstG_no {s : Src} {n k : Nat} {x : Int} (h : termP s k = (x, false)) : firstG s n k = [] := by
  cases n with
  | zero => rfl
  | succ n => rw [firstG, h]; rfl
theorem firstG_yes {s : Src} {M k : Nat} {x : Int} {xs T : List Int} (h : termP s k = (x, true)) (hk : k < M) (e : xs ++ firstG s (M - k) k = T) : (xs ++ [x]) ++ firstG s (M - (k + 1)) (k + 1) = T := by
  rw [show M - k = (M - (k + 1)) + 1 by omega, firstG, h] at e
  rw [← e]
  simp
theorem firstG_len (s : Src) (n : Nat) : ∀ k, (firstG s n k).length ≤ n := by
  induction n with
  | zero => intro k; simp [firstG]
  | succ n ih =>
    intro k
    rw [firstG]
    split
    · simp [ih]
    · simp
theorem termP_bd {s : Src} (ok : OkSrc s) (k : Nat) (hk : k ≤ 1000000) : -1000000000 ≤ (termP s k).1 ∧ (termP s k).1 ≤ 1000001000000 := by
  unfold termP
  split
  · rename_i h
    have e : s.H[k]? = some s.H[k] := List.getElem?_eq_getElem h
    have := ok.hd k _ e
    unfold lowAt at this
    simp [e]
    split at this <;> omega
  · split
    · simp
    · rename_i h h2
      have hm : (k - s.H.length) % s.P.length < s.P.length := Nat.mod_lt _ (by omega)
      have hm2 : (k - s.H.length) % s.P.length < s.G.length := by rw [ok.gp]; exact hm
      have e1 : s.P[(k - s.H.length) % s.P.length]? = some s.P[(k - s.H.length) % s.P.length] := List.getElem?_eq_getElem hm
      have e2 : s.G[(k - s.H.length) % s.P.length]? = some s.G[(k - s.H.length) % s.P.length] := List.getElem?_eq_getElem hm2
      have b1 := ok.per _ _ e1
      have b2 := ok.gr _ _ e2
      have hq : (k - s.H.length) / s.P.length ≤ k := Nat.le_trans (Nat.div_le_self _ _) (by omega)
      simp only [List.getD_eq_getElem?_getD, e1, e2, Option.getD_some]
      generalize (k - s.H.length) / s.P.length = Q at *
      have hp := prod_bd (Q : Int) s.G[(k - s.H.length) % s.P.length] 1000000 1000000 (by omega) (by omega) b2.1 b2.2
      omega
theorem iterm_eqF {h p g : Value} {s : Src} {k : Nat} {x : Int} {o : Bool} (he : termP s k = (x, o)) (w : World) (ha : SlS w h p g s) (ok : OkPer s) (h1 : k ≤ 1000000) :
    Calls Tryz.prog 47 #[.agg #[h, p, g], .int .i64 k] w fun e w' => e = .returned (.tuple #[.int .i64 x, .bool o]) ∧ Bl w w' := by
  have := iterm_any h p g s k w ha ok (by omega) (by omega)
  rw [Int.toNat_natCast, he] at this
  exact this
theorem sterm_eqT {h p g : Value} {s : Src} {k : Nat} {x : Int} {o : Bool} (he : termP s k = (x, o)) (w : World) (b : Nat) (ha : SlS w h p g s) (hx : Bx w b #[h, p, g]) (ok : OkPer s) (h1 : k ≤ 1000000) :
    Calls Tryz.prog 50 #[.pointer (some ⟨b, 0, none⟩), .int .i64 k] w fun e w' => e = .returned (.tuple #[.int .i64 x, .bool o]) ∧ Bl w w' := by
  have := sterm_any h p g s k w b ha hx ok (by omega) (by omega)
  rw [Int.toNat_natCast, he] at this
  exact this
theorem lsizeB (a : Option Addr) (n c : Nat) (w : World) (hn : n ≤ 9223372036854775807) : Calls Tryz.prog 54 #[.slice a n c] w fun e w' => e = .returned (.int .i64 n) ∧ Bl w w' :=
  (lsize_any a n c w hn).mono (by rintro e w' ⟨h1, rfl⟩; exact ⟨h1, bl_refl _⟩)
theorem Bx.grownApart {w w' : World} {b : Nat} {cs : Array Value} {row : Option Nat} (h : Bx w b cs) (hg : w.grownBy w' row) (hn : row ≠ some b) : Bx w' b cs := by
  have hl := h.out.2.2
  obtain ⟨t, h⟩ := h
  exact ⟨t, (hg.block b hl (fun e => hn e.symm)).trans h⟩

set_option maxRecDepth 100000 in
set_option maxHeartbeats 3200000 in
theorem firstI_any (h p g : Value) (s : Src) (M : Nat) (w : World) (hs : SlS w h p g s) (ok : OkSrc s) (hM : M ≤ 1000) :
    Calls Tryz.prog 51 #[.agg #[h, p, g], .int .i64 M] w fun e w' => ∃ a c, e = .returned (.slice a (firstL s M).length c) ∧ Own w' w.heap.size (.slice a (firstL s M).length c) (firstL s M) ∧ Bl w w' := by
  obtain ⟨T, hT⟩ : ∃ T, T = firstL s M := ⟨_, rfl⟩
  have hl := Lib.hid (show T.length ≤ M by rw [hT]; exact firstG_len s M 0)
  rw [← hT]
  have HT := Lib.hid hT
  clear hT
  have HS := Lib.hid hs
  clear hs
  go_enter Tryz.func51, Tryz.ntmps51
  go_wp2_with fail
  have B1 : Bl w (w.alloc (.cells #[h, p, g] 26)) := (bl_alloc (bl_refl _) _)
  have xF_1 : Bx (w.alloc (.cells #[h, p, g] 26)) (w.heap.size) #[h, p, g] := (Bx.new (b := w.heap.size) _ #[h, p, g] 26 (by first | rfl | simp))
  have zz1 : w.heap.size + 1 ≤ (w.alloc (.cells #[h, p, g] 26)).heap.size := (by simp)
  generalize (w.alloc (.cells #[h, p, g] 26)) = w1 at *
  obtain ⟨cF_1, fF_1, zF_1⟩ := xF_1.out
  go_loopg [5, 6, 7] M (fun n s5 s6 s7 wr => ∃ (xs : List Int) (a : Option Addr) (c : Nat), s5 = .slice a xs.length c ∧ Own wr w1.heap.size (.slice a xs.length c) xs ∧ Hid (xs ++ firstG s (M - xs.length) xs.length = T) ∧ n + xs.length = M ∧ Bx wr (w.heap.size) #[h, p, g] ∧ Bl w1 wr)
  case atStart =>
    exact ⟨[], none, 0, rfl, Own.nil _ _, Lib.hid (by rw [HT.out]; rfl), by simp, xF_1, bl_refl _⟩
  case round =>
    rcases hrel with ⟨xs, a, c, rfl, ho, hx, hn, yF, Bq⟩
    have Br : Bl w wr := bl_call B1 Bq
    have HO := Lib.hid ho
    clear ho cF_1 fF_1 zF_1
    obtain ⟨cF, fF, zF⟩ := yF.out
    rcases Nat.lt_or_ge xs.length M with hk | hk
    ·
      obtain ⟨⟨x, o⟩, hx1⟩ : ∃ z, termP s xs.length = z := ⟨_, rfl⟩
      have hb := termP_bd ok xs.length (by omega)
      rw [hx1] at hb
      simp only [] at hb
      have HX1 := Lib.hid hx1
      clear hx1
      go_wp2_with (go_at_call 54; refine (lsize_any _ _ _ _ (by omega)).mono ?_; rintro e w9 ⟨rfl, rfl⟩)
      go_region_held3 (fun w' => w'.cell? ⟨w.heap.size, 0, none⟩ = some (h) ∧ w'.cell? ⟨w.heap.size, 1, none⟩ = some (p) ∧ w'.cell? ⟨w.heap.size, 2, none⟩ = some (g)) (first | (simp [*]; done) | (go_simp; done) | go_keep)
        (first | (go_at_call 54; go_must (refine (lsizeB _ _ _ _ (by omega)).mono ?_; rintro e wr1 ⟨rfl, hbr1⟩; have Br1 : Bl w wr1 := bl_call (bl_drew Br) hbr1; have xF_r1 : Bx wr1 (w.heap.size) #[h, p, g] := yF.drew.below hbr1; clear cF fF zF; obtain ⟨cF_r1, fF_r1, zF_r1⟩ := xF_r1.out)) | (go_at_call 47; go_must (refine (iterm_eqF HX1.out _ (HS.out.below (bl_call (bl_drew Br) hbr1)) ok.okPer (by omega)).mono ?_; rintro e wr2 ⟨rfl, hbr2⟩; have Br2 : Bl w wr2 := bl_call Br1 hbr2; have xF_r2 : Bx wr2 (w.heap.size) #[h, p, g] := xF_r1.below hbr2; clear cF_r1 fF_r1 zF_r1; obtain ⟨cF_r2, fF_r2, zF_r2⟩ := xF_r2.out)))
      cases o with
      | false =>
        have HX := Lib.hid (show xs = T by have := hx.out; rwa [firstG_no HX1.out, List.append_nil] at this)
        have HO1 := Lib.hid ((HO.out.drew.below hbr1).below hbr2)
        clear HO
        go_wp2
        go_ret
        have e := HX.out
        subst e
        exact ⟨a, c, rfl, HO1.out.mono B1.size, Br2⟩
      | true =>
        have HX := Lib.hid (firstG_yes HX1.out hk hx.out)
        have HO1 := Lib.hid ((HO.out.drew.below hbr1).below hbr2)
        clear HO
        go_wp2_with (at_builtin; refine wpList_append_one rfl _ _ rfl w1.heap.size _ xs (by rfl) HO1.out _ (by unfold R64; omega) (by rfl) (by omega) (bl_call (bl_call (bl_drew Bq) hbr1) hbr2).size ?_; intro v' wn ho hg _; obtain ⟨a1, c1, rfl, _⟩ := ho.form)
        have BN := bl_grown (bl_call (bl_call (bl_drew Bq) hbr1) hbr2) hg (fun k hk => (HO1.out.lt k hk).1)
        have xN := xF_r2.grownApart hg (fun q => by have := (HO1.out.lt _ q).1; omega)
        clear hg
        have HO2 := Lib.hid ho
        clear ho
        go_wp2
        go_roundg (M - (xs.length + 1))
        case measure => omega
        case rel => exact ⟨xs ++ [x], a1, c1, by simp, HO2.out, by rw [List.length_append]; exact HX, by simp; omega, xN, BN⟩
    ·
      have HX := Lib.hid (show xs = T by have := hx.out; rw [show M - xs.length = 0 by omega] at this; rwa [firstG, List.append_nil] at this)
      go_wp2_with (go_at_call 54; refine (lsize_any _ _ _ _ (by omega)).mono ?_; rintro e w9 ⟨rfl, rfl⟩)
      go_ret
      have e := HX.out
      subst e
      exact ⟨a, c, rfl, HO.out.mono B1.size, Br⟩

set_option maxRecDepth 100000 in
set_option maxHeartbeats 3200000 in
theorem firstS_any (h p g : Value) (s : Src) (M : Nat) (w : World) (b : Nat) (hs : SlS w h p g s) (hx0 : Bx w b #[h, p, g]) (ok : OkSrc s) (hM : M ≤ 1000) :
    Calls Tryz.prog 52 #[.pointer (some ⟨b, 0, none⟩), .int .i64 M] w fun e w' => ∃ a c, e = .returned (.slice a (firstL s M).length c) ∧ Own w' w.heap.size (.slice a (firstL s M).length c) (firstL s M) ∧ Bl w w' := by
  obtain ⟨T, hT⟩ : ∃ T, T = firstL s M := ⟨_, rfl⟩
  have hl := Lib.hid (show T.length ≤ M by rw [hT]; exact firstG_len s M 0)
  rw [← hT]
  have HT := Lib.hid hT
  clear hT
  have HS := Lib.hid hs
  clear hs
  have xF_0 := hx0
  have hbw := xF_0.out.2.2
  obtain ⟨cF_0, fF_0, zF_0⟩ := xF_0.out
  go_enter Tryz.func52, Tryz.ntmps52
  go_wp2
  go_loopg [5, 6, 7, 8] M (fun n s5 s6 s7 s8 wr => ∃ (xs : List Int) (a : Option Addr) (c : Nat), s5 = .slice a xs.length c ∧ s6 = .int .i64 xs.length ∧ Own wr w.heap.size (.slice a xs.length c) xs ∧ Hid (xs ++ firstG s (M - xs.length) xs.length = T) ∧ n + xs.length = M ∧ Bx wr (b) #[h, p, g] ∧ Bl w wr)
  case atStart =>
    exact ⟨[], some ⟨w.heap.size, 0, none⟩, 0, rfl, rfl, own_made w (Nat.le_refl _), Lib.hid (by rw [HT.out]; rfl), by simp, xF_0.alloc _, bl_alloc (bl_refl _) _⟩
  case round =>
    rcases hrel with ⟨xs, a, c, rfl, rfl, ho, hx, hn, yF, Br⟩
    have HO := Lib.hid ho
    clear ho cF_0 fF_0 zF_0
    obtain ⟨cF, fF, zF⟩ := yF.out
    rcases Nat.lt_or_ge xs.length M with hk | hk
    ·
      obtain ⟨⟨x, o⟩, hx1⟩ : ∃ z, termP s xs.length = z := ⟨_, rfl⟩
      have hb := termP_bd ok xs.length (by omega)
      rw [hx1] at hb
      simp only [] at hb
      have HX1 := Lib.hid hx1
      clear hx1
      go_wp2_with fail
      refine (sterm_eqT HX1.out _ b (HS.out.below Br) yF ok.okPer (by omega)).mono ?_
      rintro e wr1 ⟨rfl, hbr1⟩
      have Br1 : Bl w wr1 := bl_call Br hbr1
      have xF_r1 : Bx wr1 (b) #[h, p, g] := yF.below hbr1
      clear cF fF zF
      obtain ⟨cF_r1, fF_r1, zF_r1⟩ := xF_r1.out
      cases o with
      | false =>
        have HX := Lib.hid (show xs = T by have := hx.out; rwa [firstG_no HX1.out, List.append_nil] at this)
        have HO1 := Lib.hid (HO.out.below hbr1)
        clear HO
        go_wp2
        go_ret
        have e := HX.out
        subst e
        exact ⟨a, c, rfl, HO1.out, Br1⟩
      | true =>
        have HX := Lib.hid (firstG_yes HX1.out hk hx.out)
        have HO1 := Lib.hid (HO.out.below hbr1)
        clear HO
        go_wp2_with (at_builtin; refine wpList_append_one rfl _ _ rfl w.heap.size _ xs (by rfl) HO1.out _ (by unfold R64; omega) (by rfl) (by omega) (Br1).size ?_; intro v' wn ho hg _; obtain ⟨a1, c1, rfl, _⟩ := ho.form)
        have BN := bl_grown Br1 hg (fun k hk => (HO1.out.lt k hk).1)
        have xN := xF_r1.grownApart hg (fun q => by have := (HO1.out.lt _ q).1; omega)
        clear hg
        have HO2 := Lib.hid ho
        clear ho
        go_wp2
        go_roundg (M - (xs.length + 1))
        case measure => omega
        case rel => exact ⟨xs ++ [x], a1, c1, by simp, by simp, HO2.out, by rw [List.length_append]; exact HX, by simp; omega, xN, BN⟩
    ·
      have HX := Lib.hid (show xs = T by have := hx.out; rw [show M - xs.length = 0 by omega] at this; rwa [firstG, List.append_nil] at this)
      go_wp2
      go_ret
      have e := HX.out
      subst e
      exact ⟨a, c, rfl, HO.out, Br⟩

end Go.Proofs.YtndblondleclpaaGreatDoor

/- FirstTerms: the program and the reference give the same. No condition. -/
namespace Go.Proofs.YtndblondleclpaaGreatDoor
open Go.RowKit
set_option linter.unusedVariables false
set_option linter.unusedSimpArgs false

theorem ivalid_eqF {h p g : Value} {s : Src} {b : Bool} (e : okSrc s = b) (w : World) (ha : SlS w h p g s) : Calls Tryz.prog 25 #[.agg #[h, p, g]] w fun e w' => e = .returned (.bool b) ∧ Bl w w' := e ▸ ivalid_any h p g s w ha
theorem svalid_eqF {h p g : Value} {s : Src} {b : Bool} (e : okSrc s = b) (w : World) (x : Nat) (ha : SlS w h p g s) (hx : Bx w x #[h, p, g]) : Calls Tryz.prog 48 #[.pointer (some ⟨x, 0, none⟩)] w fun e w' => e = .returned (.bool b) ∧ Bl w w' := e ▸ svalid_any h p g s w x ha hx
theorem within_eqF {n lo hi : Int} {b : Bool} (h : inB n lo hi = b) (w : World) : Calls Tryz.prog 46 #[.int .i64 n, .int .i64 lo, .int .i64 hi] w fun e w' => e = .returned (.bool b) ∧ w = w' := h ▸ within_any n lo hi w
theorem in_eqF {n lo hi : Int} {b : Bool} (h : inB n lo hi = b) (w : World) : Calls Tryz.prog 49 #[.int .i64 n, .int .i64 lo, .int .i64 hi] w fun e w' => e = .returned (.bool b) ∧ w = w' := h ▸ in_any n lo hi w
theorem ret_li {v : Value} {xs : List Int} {r : List Int × Int} {c : Int} (h : r = (xs, c)) : Ending.returned (.tuple #[v, .int .i64 c]) = .returned (.tuple #[v, .int .i64 r.2]) := by rw [h]
noncomputable def firstF (s : Src) (m : Int) : List Int × Int := if okSrc s then (if inB m 0 1000 then (firstL s m.toNat, 0) else ([], 2)) else ([], 1)
theorem firstF_len (s : Src) (m : Int) : (firstF s m).1.length ≤ 1048576 := by
  unfold firstF
  split
  · split
    · rename_i h
      have := inB_iff.1 h
      have := firstG_len s m.toNat 0
      simp [firstL]
      omega
    · simp
  · simp

set_option maxRecDepth 100000 in
set_option maxHeartbeats 3200000 in
theorem impl_FirstTerms (h p g : Value) (s : Src) (m : Int) (w : World) (hs : SlS w h p g s) :
    Calls Tryz.prog 10 #[.agg #[h, p, g], .int .i64 m] w fun e w' => ∃ a n c, e = .returned (.tuple #[.slice a n c, .int .i64 (firstF s m).2]) ∧ Own w' w.heap.size (.slice a n c) (firstF s m).1 ∧ Bl w w' := by
  cases e1 : okSrc s with
  | false =>
    have HR := (show firstF s m = ([], 1) by simp [firstF, e1])
    have HR := Lib.hid HR
    have E1 := Lib.hid e1
    clear e1
    go_enter Tryz.func10, Tryz.ntmps10
    go_wp2_with fail
    refine (ivalid_eqF E1.out _ (hs.below (bl_alloc (bl_refl _) _))).mono ?_
    rintro e w1 ⟨rfl, hb1⟩
    have B1 : Bl w w1 := bl_call (bl_alloc (bl_refl _) _) hb1
    have xF_1 : Bx w1 (w.heap.size) #[h, p, g] := (Bx.new (b := w.heap.size) _ #[h, p, g] 26 (by first | rfl | simp)).below hb1
    obtain ⟨cF_1, fF_1, zF_1⟩ := xF_1.out
    go_wp2
    go_ret2
    exact ⟨_, _, _, ret_li HR.out, by rw [HR.out]; exact Own.nil _ _, B1⟩
  | true =>
    cases e2 : inB m 0 1000 with
    | false =>
      have HR := (show firstF s m = ([], 2) by simp [firstF, e1, e2])
      have HR := Lib.hid HR
      have E1 := Lib.hid e1
      clear e1
      have E2 := Lib.hid e2
      clear e2
      go_enter Tryz.func10, Tryz.ntmps10
      go_wp2_with fail
      refine (ivalid_eqF E1.out _ (hs.below (bl_alloc (bl_refl _) _))).mono ?_
      rintro e w1 ⟨rfl, hb1⟩
      have B1 : Bl w w1 := bl_call (bl_alloc (bl_refl _) _) hb1
      have xF_1 : Bx w1 (w.heap.size) #[h, p, g] := (Bx.new (b := w.heap.size) _ #[h, p, g] 26 (by first | rfl | simp)).below hb1
      obtain ⟨cF_1, fF_1, zF_1⟩ := xF_1.out
      go_wp2_with fail
      refine (within_eqF E2.out _).mono ?_
      rintro e w9 ⟨rfl, rfl⟩
      go_wp2
      go_ret2
      exact ⟨_, _, _, ret_li HR.out, by rw [HR.out]; exact Own.nil _ _, B1⟩
    | true =>
      have HR := (show firstF s m = (firstL s m.toNat, 0) by simp [firstF, e1, e2])
      have hm := inB_iff.1 e2
      obtain ⟨M, rfl⟩ := Int.eq_ofNat_of_zero_le (show 0 ≤ m by omega)
      rw [Int.toNat_natCast] at HR
      have K1 := okSrc_iff.1 e1
      have HR := Lib.hid HR
      have E1 := Lib.hid e1
      clear e1
      have E2 := Lib.hid e2
      clear e2
      go_enter Tryz.func10, Tryz.ntmps10
      go_wp2_with fail
      refine (ivalid_eqF E1.out _ (hs.below (bl_alloc (bl_refl _) _))).mono ?_
      rintro e w1 ⟨rfl, hb1⟩
      have B1 : Bl w w1 := bl_call (bl_alloc (bl_refl _) _) hb1
      have xF_1 : Bx w1 (w.heap.size) #[h, p, g] := (Bx.new (b := w.heap.size) _ #[h, p, g] 26 (by first | rfl | simp)).below hb1
      obtain ⟨cF_1, fF_1, zF_1⟩ := xF_1.out
      go_wp2_with fail
      refine (within_eqF E2.out _).mono ?_
      rintro e w9 ⟨rfl, rfl⟩
      go_wp2_with fail
      refine (firstI_any h p g s M _ (hs.below B1) K1 (by omega)).mono ?_
      rintro e w2 ⟨ya, yc, rfl, HY, hb2⟩
      have B2 : Bl w w2 := bl_call B1 hb2
      have xF_2 : Bx w2 (w.heap.size) #[h, p, g] := xF_1.below hb2
      clear cF_1 fF_1 zF_1
      obtain ⟨cF_2, fF_2, zF_2⟩ := xF_2.out
      have HY := Lib.hid HY
      go_wp2
      go_ret2
      exact ⟨_, _, _, ret_li HR.out, by rw [HR.out]; exact HY.out.mono B1.size, B2⟩

set_option maxRecDepth 100000 in
set_option maxHeartbeats 3200000 in
theorem spec_FirstTerms (h p g : Value) (s : Src) (m : Int) (w : World) (hs : SlS w h p g s) :
    Calls Tryz.prog 11 #[.agg #[h, p, g], .int .i64 m] w fun e w' => ∃ a n c, e = .returned (.tuple #[.slice a n c, .int .i64 (firstF s m).2]) ∧ Own w' w.heap.size (.slice a n c) (firstF s m).1 ∧ Bl w w' := by
  cases e1 : okSrc s with
  | false =>
    have HR := (show firstF s m = ([], 1) by simp [firstF, e1])
    have HR := Lib.hid HR
    have E1 := Lib.hid e1
    clear e1
    go_enter Tryz.func11, Tryz.ntmps11
    go_wp2_with fail
    refine (svalid_eqF E1.out _ (w.heap.size) (hs.below (bl_alloc (bl_refl _) _)) (Bx.new (b := w.heap.size) _ #[h, p, g] 26 (by first | rfl | simp))).mono ?_
    rintro e w1 ⟨rfl, hb1⟩
    have B1 : Bl w w1 := bl_call (bl_alloc (bl_refl _) _) hb1
    have xF_1 : Bx w1 (w.heap.size) #[h, p, g] := (Bx.new (b := w.heap.size) _ #[h, p, g] 26 (by first | rfl | simp)).below hb1
    obtain ⟨cF_1, fF_1, zF_1⟩ := xF_1.out
    go_wp2
    go_ret2
    exact ⟨_, _, _, ret_li HR.out, by rw [HR.out]; exact Own.nil _ _, B1⟩
  | true =>
    cases e2 : inB m 0 1000 with
    | false =>
      have HR := (show firstF s m = ([], 2) by simp [firstF, e1, e2])
      have HR := Lib.hid HR
      have E1 := Lib.hid e1
      clear e1
      have E2 := Lib.hid e2
      clear e2
      go_enter Tryz.func11, Tryz.ntmps11
      go_wp2_with fail
      refine (svalid_eqF E1.out _ (w.heap.size) (hs.below (bl_alloc (bl_refl _) _)) (Bx.new (b := w.heap.size) _ #[h, p, g] 26 (by first | rfl | simp))).mono ?_
      rintro e w1 ⟨rfl, hb1⟩
      have B1 : Bl w w1 := bl_call (bl_alloc (bl_refl _) _) hb1
      have xF_1 : Bx w1 (w.heap.size) #[h, p, g] := (Bx.new (b := w.heap.size) _ #[h, p, g] 26 (by first | rfl | simp)).below hb1
      obtain ⟨cF_1, fF_1, zF_1⟩ := xF_1.out
      go_wp2_with fail
      refine (in_eqF E2.out _).mono ?_
      rintro e w9 ⟨rfl, rfl⟩
      go_wp2
      go_ret2
      exact ⟨_, _, _, ret_li HR.out, by rw [HR.out]; exact Own.nil _ _, B1⟩
    | true =>
      have HR := (show firstF s m = (firstL s m.toNat, 0) by simp [firstF, e1, e2])
      have hm := inB_iff.1 e2
      obtain ⟨M, rfl⟩ := Int.eq_ofNat_of_zero_le (show 0 ≤ m by omega)
      rw [Int.toNat_natCast] at HR
      have K1 := okSrc_iff.1 e1
      have HR := Lib.hid HR
      have E1 := Lib.hid e1
      clear e1
      have E2 := Lib.hid e2
      clear e2
      go_enter Tryz.func11, Tryz.ntmps11
      go_wp2_with fail
      refine (svalid_eqF E1.out _ (w.heap.size) (hs.below (bl_alloc (bl_refl _) _)) (Bx.new (b := w.heap.size) _ #[h, p, g] 26 (by first | rfl | simp))).mono ?_
      rintro e w1 ⟨rfl, hb1⟩
      have B1 : Bl w w1 := bl_call (bl_alloc (bl_refl _) _) hb1
      have xF_1 : Bx w1 (w.heap.size) #[h, p, g] := (Bx.new (b := w.heap.size) _ #[h, p, g] 26 (by first | rfl | simp)).below hb1
      obtain ⟨cF_1, fF_1, zF_1⟩ := xF_1.out
      go_wp2_with fail
      refine (in_eqF E2.out _).mono ?_
      rintro e w9 ⟨rfl, rfl⟩
      go_wp2_with fail
      refine (firstS_any h p g s M _ (w.heap.size) (hs.below B1) xF_1 K1 (by omega)).mono ?_
      rintro e w2 ⟨ya, yc, rfl, HY, hb2⟩
      have B2 : Bl w w2 := bl_call B1 hb2
      have xF_2 : Bx w2 (w.heap.size) #[h, p, g] := xF_1.below hb2
      clear cF_1 fF_1 zF_1
      obtain ⟨cF_2, fF_2, zF_2⟩ := xF_2.out
      have HY := Lib.hid HY
      go_wp2
      go_ret2
      exact ⟨_, _, _, ret_li HR.out, by rw [HR.out]; exact HY.out.mono B1.size, B2⟩

end Go.Proofs.YtndblondleclpaaGreatDoor

/- Plain laws of terms, of what is left out and of texts. Each theorem names its conditions. -/
namespace Go.Proofs.YtndblondleclpaaGreatDoor
set_option linter.unusedVariables false
set_option linter.unusedSimpArgs false

theorem firstG_get {s : Src} : ∀ (n k i : Nat), i < (firstG s n k).length → (firstG s n k)[i]? = some (termP s (k + i)).1 ∧ (termP s (k + i)).2 = true
  | 0, _, i, h => by simp [firstG] at h
  | n + 1, k, i, h => by
    unfold firstG at h ⊢
    by_cases c : (termP s k).2 = true
    · rw [if_pos c] at h ⊢
      cases i with
      | zero => exact ⟨rfl, c⟩
      | succ i =>
        have := firstG_get n (k + 1) i (by simpa using h)
        rw [show k + (i + 1) = k + 1 + i by omega]
        simpa using this
    · rw [if_neg c] at h; simp at h
/-- The ith of the first terms is the term at i. -/
theorem first_at {s : Src} {m : Int} {xs : List Int} {i : Nat} (h : firstF s m = (xs, 0)) (hi : i < xs.length) : ∃ x, xs[i]? = some x ∧ termAtF s (i : Int) = (x, 0) := by
  unfold firstF at h
  by_cases c1 : okSrc s = true
  · rw [if_pos c1] at h
    by_cases c2 : inB m 0 1000 = true
    · rw [if_pos c2] at h
      have hx : firstG s m.toNat 0 = xs := (Prod.mk.inj h).1
      have hb := inB_iff.1 c2
      have hl := firstG_len s m.toNat 0
      rw [hx] at hl
      have hg := firstG_get (s := s) m.toNat 0 i (by rw [hx]; exact hi)
      rw [hx, Nat.zero_add] at hg
      refine ⟨_, hg.1, ?_⟩
      unfold termAtF
      rw [if_pos c1, if_pos (inB_iff.2 ⟨by omega, by omega⟩), Int.toNat_natCast, if_pos hg.2]
    · rw [if_neg c2] at h; exact absurd (Prod.mk.inj h).2 (by decide)
  · rw [if_neg c1] at h; exact absurd (Prod.mk.inj h).2 (by decide)
theorem grow_at (P G : List Int) (n a q : Nat) (hn : 0 < n) :
    P.getD (a % n) 0 + ((a / n : Nat) : Int) * G.getD (a % n) 0 + (q : Int) * G.getD (a % n) 0 = P.getD ((a + n * q) % n) 0 + (((a + n * q) / n : Nat) : Int) * G.getD ((a + n * q) % n) 0 := by
  rw [Nat.add_mul_mod_self_left, Nat.add_mul_div_left _ _ hn, Int.natCast_add, Int.add_mul, Int.add_assoc]
theorem term_out {s : Src} {K i : Nat} (h : (termP s K).2 = true) : termP (outF s K) i = termP s (K + i) := by
  rw [term_some] at h
  have h := of_decide_eq_true h
  by_cases c : K ≤ s.H.length
  · rw [outF, if_pos c]
    unfold termP
    simp only [List.length_drop]
    by_cases c1 : i < s.H.length - K
    · rw [if_pos c1, if_pos (show K + i < s.H.length by omega)]
      simp [List.getD_eq_getElem?_getD, List.getElem?_drop]
    · rw [if_neg c1, if_neg (show ¬ K + i < s.H.length by omega), show i - (s.H.length - K) = K + i - s.H.length by omega]
  · have hp : 0 < s.P.length := by omega
    rw [outF, if_neg c]
    unfold termP
    simp only [List.length_map, List.length_range, List.length_nil]
    rw [if_neg (show ¬ i < 0 by omega), if_neg (show ¬ s.P.length = 0 by omega), if_neg (show ¬ K + i < s.H.length by omega), if_neg (show ¬ s.P.length = 0 by omega), Nat.sub_zero]
    have hm : i % s.P.length < s.P.length := Nat.mod_lt _ hp
    obtain ⟨r, hr⟩ : ∃ r, i % s.P.length = r := ⟨_, rfl⟩
    rw [hr] at hm ⊢
    have e1 : ((List.range s.P.length).map fun j => (if K + j < s.H.length then (s.H.getD (K + j) 0, true) else if s.P.length = 0 then (0, false) else (s.P.getD ((K + j - s.H.length) % s.P.length) 0 + ((K + j - s.H.length) / s.P.length : Nat) * s.G.getD ((K + j - s.H.length) % s.P.length) 0, true) : Int × Bool).1).getD r 0 = s.P.getD ((K + r - s.H.length) % s.P.length) 0 + ((K + r - s.H.length) / s.P.length : Nat) * s.G.getD ((K + r - s.H.length) % s.P.length) 0 := by
      rw [List.getD_eq_getElem?_getD, List.getElem?_map, List.getElem?_range hm]
      simp only [Option.map_some, Option.getD_some]
      rw [if_neg (show ¬ K + r < s.H.length by omega), if_neg (show ¬ s.P.length = 0 by omega)]
    have e2 : ((List.range s.P.length).map (grwF s K)).getD r 0 = s.G.getD ((K + r - s.H.length) % s.P.length) 0 := by
      rw [List.getD_eq_getElem?_getD, List.getElem?_map, List.getElem?_range hm]
      simp only [Option.map_some, Option.getD_some, grwF]
      rw [show K - s.H.length + r = K + r - s.H.length by omega]
    rw [e1, e2]
    have ei : K + i - s.H.length = (K + r - s.H.length) + s.P.length * (i / s.P.length) := by
      have := Nat.mod_add_div i s.P.length
      omega
    rw [ei, ← grow_at _ _ _ _ _ hp]
/-- A term of what is left is a term of the whole. -/
theorem skip_at {s t : Src} {c : Int} {i : Nat} (h : skipF s c = (t, 0)) (hi : i < 20) (hc : c + i ≤ 1000) : 0 ≤ c ∧ termAtF t (i : Int) = termAtF s (c + i) := by
  by_cases c1 : okSrc s = true
  · by_cases c2 : inB c 0 1000 = true
    · have hb := inB_iff.1 c2
      obtain ⟨K, rfl⟩ : ∃ K : Nat, c = K := ⟨c.toNat, by omega⟩
      cases c3 : (termP s K).2 with
      | false => rw [skip_3 c1 c2 c3] at h; exact absurd (Prod.mk.inj h).2 (by decide)
      | true =>
        cases c4 : okSrc (outF s K) with
        | false => rw [skip_5 c1 c2 c3 c4] at h; exact absurd (Prod.mk.inj h).2 (by decide)
        | true =>
          rw [skip_0 c1 c2 c3 c4] at h
          have e := (Prod.mk.inj h).1
          subst e
          refine ⟨by omega, ?_⟩
          have e1 : ((K : Int) + (i : Int)).toNat = K + i := by omega
          unfold termAtF
          rw [c1, c4, e1, Int.toNat_natCast, term_out c3, inB_iff.2 (show (0 : Int) ≤ (i : Int) ∧ (i : Int) ≤ 1000 by omega), inB_iff.2 (show (0 : Int) ≤ (K : Int) + (i : Int) ∧ (K : Int) + (i : Int) ≤ 1000 by omega)]
    · rw [skip_2 c1 (by simpa using c2)] at h; exact absurd (Prod.mk.inj h).2 (by decide)
  · rw [skip_1 (by simpa using c1)] at h; exact absurd (Prod.mk.inj h).2 (by decide)

/-! Texts. -/
theorem rsS_nil : rsS [] = none := rs_fold (by
  have : spl 32 ([] : List UInt8) = [[]] := spl_none (by simp)
  rw [this, foldS, st_empty rfl])
theorem rsF_yes {s : Src} (v : VS s.H s.P s.G) : rsF (stxt s.H s.P s.G) = (s, true) := by
  rw [rsF_some (rsS_iff.2 ⟨v, (stxt_yes v).symm⟩)]
theorem stxt_ne {s : Src} (v : VS s.H s.P s.G) : stxt s.H s.P s.G ≠ [] := fun e => by
  have := rsF_yes v
  rw [e, rsF_none rsS_nil] at this
  exact absurd (Prod.mk.inj this).2 (by decide)
theorem rsF_no {s : Src} (v : ¬ VS s.H s.P s.G) : rsF (stxt s.H s.P s.G) = (⟨[], [], []⟩, false) := by
  rw [stxt_no v, rsF_none rsS_nil]
theorem stxt_len (H P G : List Int) : (stxt H P G).length ≤ 1048576 := by
  by_cases v : VS H P G
  · rw [stxt_yes v, stext]
    have h1 := v.h30
    have h2 := v.p30
    have hm : ∀ w ∈ words H P G, w.length ≤ 45 := by
      intro w hw
      rcases List.mem_append.1 hw with q | q
      · obtain ⟨x, hx, rfl⟩ := List.mem_map.1 q
        have := v.hr x hx
        exact Nat.le_trans (Lib.itoa_length_le x (by omega) (by omega)) (by decide)
      · obtain ⟨i, hi, rfl⟩ := List.mem_map.1 q
        have hi := List.mem_range.1 hi
        have := v.pr i hi
        have := v.gg i hi
        exact pword_len (by omega) (by omega)
    have := join_len 32 45 (words H P G) hm
    have hl : (words H P G).length ≤ 60 := by simp [words, pwn_length]; omega
    have : (Lib.join (words H P G) [32]).length ≤ 60 * 46 := Nat.le_trans this (by first | exact Nat.mul_le_mul_right _ hl | (simp; omega) | omega)
    omega
  · rw [stxt_no v]; simp
end Go.Proofs.YtndblondleclpaaGreatDoor

/- Equality of slices of integers: the reference's own function and slices.Equal. Conditions: each theorem names its own. -/
namespace Go.Proofs.YtndblondleclpaaGreatDoor
open Go.RowKit
set_option linter.unusedVariables false
set_option linter.unusedSimpArgs false

set_option maxHeartbeats 400000 in
theorem lsame_any (va vb : Value) (xs ys : List Int) (w : World) (ha : Sl w va xs) (hb : Sl w vb ys) :
    Calls Tryz.prog 122 #[va, vb] w fun e w' => e = .returned (.bool (decide (xs = ys))) ∧ Drawn w w' := by
  have la := ha.len
  have lb := hb.len
  obtain ⟨a, ca, rfl, h1, h2, h3, h4, h5⟩ := ha
  obtain ⟨b, cb, rfl, g1, g2, g3, g4, g5⟩ := hb
  by_cases hl : xs.length = ys.length
  · have hne : ((xs.length : Int) != (ys.length : Int)) = false := by simp [hl]
    have HL := Lib.hid hl
    have hle : xs.length ≤ ys.length := by omega
    clear hl
    go_enter Tryz.func122, Tryz.ntmps122
    go_wp2
    go_loopw [5] (fun i wr => ∃ k : Nat, k ≤ xs.length ∧ i = .int .i64 k ∧ xs.take k = ys.take k ∧ Drawn w wr) (fun i _ => xs.length - (intOf i).toNat)
    case atStart => exact ⟨0, Nat.zero_le _, rfl, by simp, Drawn.refl _⟩
    case round =>
      obtain ⟨k, hk, rfl, ht, nd, rfl⟩ := hrel
      have HT := Lib.hid ht
      clear ht
      by_cases hlt : k < xs.length
      · rcases h5 with h5 | ⟨p, o, rfl, hc⟩
        · have : xs.length = 0 := by rw [h5]; rfl
          omega
        rcases g5 with g5 | ⟨q, r, rfl, gc⟩
        · have : ys.length = 0 := by rw [g5]; rfl
          omega
        obtain ⟨x, hx⟩ : ∃ x, xs[k]? = some x := ⟨_, List.getElem?_eq_getElem hlt⟩
        obtain ⟨y, hy⟩ : ∃ y, ys[k]? = some y := ⟨_, List.getElem?_eq_getElem (by omega)⟩
        have c1 : w.cell? ⟨p, o + k, none⟩ = some (.int .i64 x) := hc k x hx
        have c2 : w.cell? ⟨q, r + k, none⟩ = some (.int .i64 y) := gc k y hy
        have HX := Lib.hid hx
        have HY := Lib.hid hy
        have hkys : k < ys.length := by omega
        clear hx hy hc gc h3 g3 h4 g4
        by_cases hxy : x = y
        · subst hxy
          have hn : (x != x) = false := by simp
          go_wp2
          go_quiet (fail)
          go_wp2
          go_roundw
          case rel => exact ⟨k + 1, by omega, by go_num, by rw [List.take_add_one, List.take_add_one, HT.out, HX.out, HY.out], _, rfl⟩
          case measure => simp [intOf]; omega
        · have hn : (x != y) = true := by simp [hxy]
          go_wp2
          go_quiet (fail)
          go_wp2
          go_ret
          exact ⟨ret_bool (by
            refine (decide_eq_false ?_).symm
            intro e
            rw [e] at HX
            exact hxy (Option.some.inj (HX.out.symm.trans HY.out))), Drawn.more ⟨nd, rfl⟩ _⟩
      · go_wp2
        go_ret
        exact ⟨ret_bool (by
          refine (decide_eq_true ?_).symm
          have e := HT.out
          rw [List.take_of_length_le (by omega), List.take_of_length_le (by have := HL.out; omega)] at e
          exact e), nd, rfl⟩
  · have hne : ((xs.length : Int) != (ys.length : Int)) = true := by simp; omega
    go_enter Tryz.func122, Tryz.ntmps122
    go_wp2
    go_ret
    exact ⟨ret_bool (by refine (decide_eq_false ?_).symm; intro e; rw [e] at hl; exact hl rfl), Drawn.refl _⟩

set_option maxHeartbeats 400000 in
theorem equal_any (va vb : Value) (xs ys : List Int) (w : World) (ha : Sl w va xs) (hb : Sl w vb ys) :
    Calls Tryz.prog 73 #[va, vb] w fun e w' => e = .returned (.bool (decide (xs = ys))) ∧ Drawn w w' := by
  have la := ha.len
  have lb := hb.len
  obtain ⟨a, ca, rfl, h1, h2, h3, h4, h5⟩ := ha
  obtain ⟨b, cb, rfl, g1, g2, g3, g4, g5⟩ := hb
  by_cases hl : xs.length = ys.length
  · have hne : ((xs.length : Int) != (ys.length : Int)) = false := by simp [hl]
    have HL := Lib.hid hl
    have hle : xs.length ≤ ys.length := by omega
    clear hl
    go_enter Tryz.func73, Tryz.ntmps73
    go_wp2
    go_loopw [13] (fun i wr => ∃ k : Nat, k ≤ xs.length ∧ i = .int .i64 k ∧ xs.take k = ys.take k ∧ Drawn w wr) (fun i _ => xs.length - (intOf i).toNat)
    case atStart => exact ⟨0, Nat.zero_le _, rfl, by simp, Drawn.refl _⟩
    case round =>
      obtain ⟨k, hk, rfl, ht, nd, rfl⟩ := hrel
      have HT := Lib.hid ht
      clear ht
      by_cases hlt : k < xs.length
      · rcases h5 with h5 | ⟨p, o, rfl, hc⟩
        · have : xs.length = 0 := by rw [h5]; rfl
          omega
        rcases g5 with g5 | ⟨q, r, rfl, gc⟩
        · have : ys.length = 0 := by rw [g5]; rfl
          omega
        obtain ⟨x, hx⟩ : ∃ x, xs[k]? = some x := ⟨_, List.getElem?_eq_getElem hlt⟩
        obtain ⟨y, hy⟩ : ∃ y, ys[k]? = some y := ⟨_, List.getElem?_eq_getElem (by omega)⟩
        have c1 : w.cell? ⟨p, o + k, none⟩ = some (.int .i64 x) := hc k x hx
        have c2 : w.cell? ⟨q, r + k, none⟩ = some (.int .i64 y) := gc k y hy
        have HX := Lib.hid hx
        have HY := Lib.hid hy
        have hkys : k < ys.length := by omega
        clear hx hy hc gc h3 g3 h4 g4
        by_cases hxy : x = y
        · subst hxy
          have hn : (x != x) = false := by simp
          go_wp2
          go_quiet (fail)
          go_wp2
          go_roundw
          case rel => exact ⟨k + 1, by omega, by go_num, by rw [List.take_add_one, List.take_add_one, HT.out, HX.out, HY.out], _, rfl⟩
          case measure => simp [intOf]; omega
        · have hn : (x != y) = true := by simp [hxy]
          go_wp2
          go_quiet (fail)
          go_wp2
          go_ret
          exact ⟨ret_bool (by
            refine (decide_eq_false ?_).symm
            intro e
            rw [e] at HX
            exact hxy (Option.some.inj (HX.out.symm.trans HY.out))), Drawn.more ⟨nd, rfl⟩ _⟩
      · go_wp2
        go_ret
        exact ⟨ret_bool (by
          refine (decide_eq_true ?_).symm
          have e := HT.out
          rw [List.take_of_length_le (by omega), List.take_of_length_le (by have := HL.out; omega)] at e
          exact e), nd, rfl⟩
  · have hne : ((xs.length : Int) != (ys.length : Int)) = true := by simp; omega
    go_enter Tryz.func73, Tryz.ntmps73
    go_wp2
    go_ret
    exact ⟨ret_bool (by refine (decide_eq_false ?_).symm; intro e; rw [e] at hl; exact hl rfl), Drawn.refl _⟩

theorem equalB_any (va vb : Value) (xs ys : List Int) (w : World) (ha : Sl w va xs) (hb : Sl w vb ys) :
    Calls Tryz.prog 73 #[va, vb] w fun e w' => e = .returned (.bool (decide (xs = ys))) ∧ Bl w w' :=
  (equal_any va vb xs ys w ha hb).mono fun _ _ h => ⟨h.1, h.2.below _⟩

end Go.Proofs.YtndblondleclpaaGreatDoor

/- Equality of sources: the program and the reference. -/
namespace Go.Proofs.YtndblondleclpaaGreatDoor
open Go.RowKit
set_option linter.unusedVariables false
set_option linter.unusedSimpArgs false


theorem Sl.drewN {w : World} {v : Value} {xs : List Int} (h : Sl w v xs) (n : Nat) : Sl (w.drewN n) v xs := h
/-- Whether two sources are equal. -/
def sameSrc (s t : Src) : Bool := decide (s.H = t.H) && decide (s.P = t.P) && decide (s.G = t.G)

set_option maxHeartbeats 800000 in
theorem impl_SameSource (h p g : Value) (s : Src) (h' p' g' : Value) (t : Src) (w : World) (ha : SlS w h p g s) (hb : SlS w h' p' g' t) :
    Calls Tryz.prog 24 #[.agg #[h, p, g], .agg #[h', p', g']] w fun e w' => e = .returned (.bool (sameSrc s t)) ∧ Bl w w' := by
  obtain ⟨a1, a2, a3⟩ := ha
  obtain ⟨b1, b2, b3⟩ := hb
  cases e1 : decide (s.H = t.H) with
  | false =>
    have HR := Lib.hid (show false = sameSrc s t by rw [sameSrc, e1]; rfl)
    go_enter Tryz.func24, Tryz.ntmps24
    go_wp2_with (go_at_call 73; refine (equal_any _ _ _ _ _ ((a1.alloc _).alloc _) ((b1.alloc _).alloc _)).mono ?_; rintro e w' ⟨rfl, nd, rfl⟩)
    go_ret
    exact ⟨ret_bool HR.out, (bl_alloc (bl_alloc (bl_refl _) _) _).trans (Drawn.below ⟨_, rfl⟩ _)⟩
  | true =>
    cases e2 : decide (s.P = t.P) with
    | false =>
      have HR := Lib.hid (show false = sameSrc s t by rw [sameSrc, e1, e2]; rfl)
      go_enter Tryz.func24, Tryz.ntmps24
      go_wp2_with fail
      refine (equal_any _ _ _ _ _ ((a1.alloc _).alloc _) ((b1.alloc _).alloc _)).mono ?_
      rintro e w' ⟨rfl, nd, rfl⟩
      go_wp2_with fail
      refine (equal_any _ _ _ _ _ (((a2.alloc _).alloc _).drewN _) (((b2.alloc _).alloc _).drewN _)).mono ?_
      rintro e w' ⟨rfl, nd2, rfl⟩
      go_wp2
      go_ret
      exact ⟨ret_bool HR.out, (bl_alloc (bl_alloc (bl_refl _) _) _).trans (Drawn.below ⟨_, rfl⟩ _)⟩
    | true =>
      have HR := Lib.hid (show decide (s.G = t.G) = sameSrc s t by rw [sameSrc, e1, e2]; rfl)
      go_enter Tryz.func24, Tryz.ntmps24
      go_wp2_with fail
      refine (equal_any _ _ _ _ _ ((a1.alloc _).alloc _) ((b1.alloc _).alloc _)).mono ?_
      rintro e w' ⟨rfl, nd, rfl⟩
      go_wp2_with fail
      refine (equal_any _ _ _ _ _ (((a2.alloc _).alloc _).drewN _) (((b2.alloc _).alloc _).drewN _)).mono ?_
      rintro e w' ⟨rfl, nd2, rfl⟩
      go_wp2_with fail
      refine (equal_any _ _ _ _ _ (((a3.alloc _).alloc _).drewN _) (((b3.alloc _).alloc _).drewN _)).mono ?_
      rintro e w' ⟨rfl, nd3, rfl⟩
      go_wp2
      go_ret
      exact ⟨ret_bool HR.out, (bl_alloc (bl_alloc (bl_refl _) _) _).trans (Drawn.below ⟨_, rfl⟩ _)⟩

theorem lsame_q {va vb : Value} {xs ys : List Int} {w : World} (ha : Sl w va xs) (hb : Sl w vb ys) {b : Bool} (hd : decide (xs = ys) = b) :
    Calls Tryz.prog 122 #[va, vb] w fun e w' => e = .returned (.bool b) ∧ ∃ m, w' = w.drewN m :=
  (lsame_any va vb xs ys w ha hb).mono fun _ _ h => ⟨by rw [h.1, hd], h.2⟩

set_option maxRecDepth 100000 in
set_option maxHeartbeats 1600000 in
theorem l15same_any (h p g : Value) (s : Src) (h' p' g' : Value) (t : Src) (w : World) (x y : Nat) (ha : SlS w h p g s) (hb : SlS w h' p' g' t) (hx : Bx w x #[h, p, g]) (hy : Bx w y #[h', p', g']) :
    Calls Tryz.prog 72 #[.pointer (some ⟨x, 0, none⟩), .pointer (some ⟨y, 0, none⟩)] w fun e w' => e = .returned (.bool (sameSrc s t)) ∧ Bl w w' := by
  obtain ⟨a1, a2, a3⟩ := ha
  obtain ⟨b1, b2, b3⟩ := hb
  obtain ⟨cx, fx, zx⟩ := hx.out
  obtain ⟨cy, fy, zy⟩ := hy.out
  cases e1 : decide (s.H = t.H) with
  | false =>
    have HR := Lib.hid (show false = sameSrc s t by rw [sameSrc, e1]; rfl)
    go_enter Tryz.func72, Tryz.ntmps72
    go_wp2
    go_quiet ((first | (go_at_call_of 122 (h); exact Calls.quiet_of (lsame_q (w := w.drewN _) a1 b1 e1))))
    go_wp2
    go_ret
    exact ⟨ret_bool HR.out, Drawn.below ⟨_, rfl⟩ _⟩
  | true =>
    cases e2 : decide (s.P = t.P) with
    | false =>
      have HR := Lib.hid (show false = sameSrc s t by rw [sameSrc, e1, e2]; rfl)
      go_enter Tryz.func72, Tryz.ntmps72
      go_wp2
      go_quiet ((first | (go_at_call_of 122 (h); exact Calls.quiet_of (lsame_q (w := w.drewN _) a1 b1 e1)) | (go_at_call_of 122 (p); exact Calls.quiet_of (lsame_q (w := w.drewN _) a2 b2 e2))))
      go_wp2
      go_ret
      exact ⟨ret_bool HR.out, Drawn.below ⟨_, rfl⟩ _⟩
    | true =>
      cases e3 : decide (s.G = t.G) with
      | false =>
        have HR := Lib.hid (show false = sameSrc s t by rw [sameSrc, e1, e2, e3]; rfl)
        go_enter Tryz.func72, Tryz.ntmps72
        go_wp2
        go_quiet ((first | (go_at_call_of 122 (h); exact Calls.quiet_of (lsame_q (w := w.drewN _) a1 b1 e1)) | (go_at_call_of 122 (p); exact Calls.quiet_of (lsame_q (w := w.drewN _) a2 b2 e2)) | (go_at_call_of 122 (g); exact Calls.quiet_of (lsame_q (w := w.drewN _) a3 b3 e3))))
        go_wp2
        go_ret
        exact ⟨ret_bool HR.out, Drawn.below ⟨_, rfl⟩ _⟩
      | true =>
        have HR := Lib.hid (show true = sameSrc s t by rw [sameSrc, e1, e2, e3]; rfl)
        go_enter Tryz.func72, Tryz.ntmps72
        go_wp2
        go_quiet ((first | (go_at_call_of 122 (h); exact Calls.quiet_of (lsame_q (w := w.drewN _) a1 b1 e1)) | (go_at_call_of 122 (p); exact Calls.quiet_of (lsame_q (w := w.drewN _) a2 b2 e2)) | (go_at_call_of 122 (g); exact Calls.quiet_of (lsame_q (w := w.drewN _) a3 b3 e3))))
        go_wp2
        go_ret
        exact ⟨ret_bool HR.out, Drawn.below ⟨_, rfl⟩ _⟩

theorem spec_SameSource (h p g : Value) (s : Src) (h' p' g' : Value) (t : Src) (w : World) (ha : SlS w h p g s) (hb : SlS w h' p' g' t) :
    Calls Tryz.prog 22 #[.agg #[h, p, g], .agg #[h', p', g']] w fun e w' => e = .returned (.bool (sameSrc s t)) ∧ Bl w w' := by
  go_enter Tryz.func22, Tryz.ntmps22
  go_wp2_with fail
  refine (l15same_any h p g s h' p' g' t _ _ _ ((ha.alloc _).alloc _) ((hb.alloc _).alloc _) ((Bx.new _ _ _ rfl).alloc _) (Bx.new _ _ _ (by simp))).mono ?_
  rintro e w1 ⟨rfl, hb1⟩
  go_wp2
  go_ret
  exact ⟨rfl, bl_call (bl_alloc (bl_alloc (bl_refl _) _) _) hb1⟩

end Go.Proofs.YtndblondleclpaaGreatDoor

/- The laws' equality of lists of numbers. Each theorem names its conditions. -/
namespace Go.Proofs.YtndblondleclpaaGreatDoor
open Go.RowKit
set_option linter.unusedVariables false
set_option linter.unusedSimpArgs false

set_option maxHeartbeats 400000 in
theorem f6ints_any (va vb : Value) (xs ys : List Int) (w : World) (ha : Sl w va xs) (hb : Sl w vb ys) :
    Calls Tryz.prog 21 #[va, vb] w fun e w' => e = .returned (.bool (decide (xs = ys))) ∧ Drawn w w' := by
  have la := ha.len
  have lb := hb.len
  obtain ⟨a, ca, rfl, h1, h2, h3, h4, h5⟩ := ha
  obtain ⟨b, cb, rfl, g1, g2, g3, g4, g5⟩ := hb
  by_cases hl : xs.length = ys.length
  · have hne : ((xs.length : Int) != (ys.length : Int)) = false := by simp [hl]
    have HL := Lib.hid hl
    have hle : xs.length ≤ ys.length := by omega
    clear hl
    go_enter Tryz.func21, Tryz.ntmps21
    go_wp2
    go_loopw [5] (fun i wr => ∃ k : Nat, k ≤ xs.length ∧ i = .int .i64 k ∧ xs.take k = ys.take k ∧ Drawn w wr) (fun i _ => xs.length - (intOf i).toNat)
    case atStart => exact ⟨0, Nat.zero_le _, rfl, by simp, Drawn.refl _⟩
    case round =>
      obtain ⟨k, hk, rfl, ht, nd, rfl⟩ := hrel
      have HT := Lib.hid ht
      clear ht
      by_cases hlt : k < xs.length
      · rcases h5 with h5 | ⟨p, o, rfl, hc⟩
        · have : xs.length = 0 := by rw [h5]; rfl
          omega
        rcases g5 with g5 | ⟨q, r, rfl, gc⟩
        · have : ys.length = 0 := by rw [g5]; rfl
          omega
        obtain ⟨x, hx⟩ : ∃ x, xs[k]? = some x := ⟨_, List.getElem?_eq_getElem hlt⟩
        obtain ⟨y, hy⟩ : ∃ y, ys[k]? = some y := ⟨_, List.getElem?_eq_getElem (by omega)⟩
        have c1 : w.cell? ⟨p, o + k, none⟩ = some (.int .i64 x) := hc k x hx
        have c2 : w.cell? ⟨q, r + k, none⟩ = some (.int .i64 y) := gc k y hy
        have HX := Lib.hid hx
        have HY := Lib.hid hy
        have hkys : k < ys.length := by omega
        clear hx hy hc gc h3 g3 h4 g4
        by_cases hxy : x = y
        · subst hxy
          have hn : (x != x) = false := by simp
          go_wp2
          go_quiet (fail)
          go_wp2
          go_roundw
          case rel => exact ⟨k + 1, by omega, by go_num, by rw [List.take_add_one, List.take_add_one, HT.out, HX.out, HY.out], _, rfl⟩
          case measure => simp [intOf]; omega
        · have hn : (x != y) = true := by simp [hxy]
          go_wp2
          go_quiet (fail)
          go_wp2
          go_ret
          exact ⟨ret_bool (by
            refine (decide_eq_false ?_).symm
            intro e
            rw [e] at HX
            exact hxy (Option.some.inj (HX.out.symm.trans HY.out))), Drawn.more ⟨nd, rfl⟩ _⟩
      · go_wp2
        go_ret
        exact ⟨ret_bool (by
          refine (decide_eq_true ?_).symm
          have e := HT.out
          rw [List.take_of_length_le (by omega), List.take_of_length_le (by have := HL.out; omega)] at e
          exact e), nd, rfl⟩
  · have hne : ((xs.length : Int) != (ys.length : Int)) = true := by simp; omega
    go_enter Tryz.func21, Tryz.ntmps21
    go_wp2
    go_ret
    exact ⟨ret_bool (by refine (decide_eq_false ?_).symm; intro e; rw [e] at hl; exact hl rfl), Drawn.refl _⟩


end Go.Proofs.YtndblondleclpaaGreatDoor

